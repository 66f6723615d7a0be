/- few nodes, as layer 8 counts them, walked. Conditions: none. -/
import Derived.Test.YtjchnliaglecoaaGreatDoorNodesB
import Derived.Test.YtjchnliaglecoaaGreatDoorBaseBX
import Derived.Test.YtjchnliaglecoaaGreatDoorProg
set_option linter.unusedVariables false
set_option linter.unusedSimpArgs false
namespace Go.Proofs.YtjchnliaglecoaaGreatDoor
open Go Go.RowKit Go.Nodes
set_option linter.unusedVariables false
set_option linter.unusedSimpArgs false
/-- What few counts. -/
def fewU : List Nd → Int → Bool
  | [], _ => true
  | x :: l, n => if 4000 < wrap64 (n + wrap64 (wrap64 (4 + (x.kids.length : Int)) + (x.text.size : Int))) then false else fewU l (wrap64 (n + wrap64 (wrap64 (4 + (x.kids.length : Int)) + (x.text.size : Int))))
theorem fewU_drop (ns : List Nd) (k : Nat) (hk : k < ns.length) (m : Int) : fewU (ns.drop k) m = if 4000 < wrap64 (m + wrap64 (wrap64 (4 + (ns[k].kids.length : Int)) + (ns[k].text.size : Int))) then false else fewU (ns.drop (k + 1)) (wrap64 (m + wrap64 (wrap64 (4 + (ns[k].kids.length : Int)) + (ns[k].text.size : Int)))) := by
  rw [List.drop_eq_getElem_cons hk]; rfl
set_option maxHeartbeats 400000 in
theorem few8_any (p : Option Addr) (cap : Nat) (ns : List Nd) (w : World) (hw : NodesAt w p ns) :
    Calls Tryz.prog 20 #[.slice p ns.length cap] w fun e w' => e = .returned (.bool (fewU ns 0)) ∧ Below w.heap.size w w' := by
  have Hw := hid hw
  clear hw
  go_enter Tryz.func20, Tryz.ntmps20
  go_wp2
  go_loopw [3, 8] (fun nv iv wr => ∃ (k : Nat) (m : Int), k ≤ ns.length ∧ iv = .int .i64 k ∧ nv = .int .i64 m ∧ Below w.heap.size w wr ∧ Hid (fewU (ns.drop k) m = fewU ns 0)) (fun _ iv _ => ns.length - (intOf iv).toNat)
  case atStart => exact ⟨0, 0, by omega, rfl, rfl, Below.refl _ _, rfl⟩
  case round =>
    obtain ⟨k, m, hk, rfl, rfl, hB, hR⟩ := hrel
    by_cases hlt : k < ns.length
    · have h0 := Hw.out.2.2
      rcases h0 with h0 | ⟨b, o, hp, hb, hc⟩
      · subst h0; simp at hlt
      subst hp
      replace hc := hc k hlt
      have hf := Hw.out.2.1 ns[k] (List.getElem_mem hlt)
      have hln := Hw.out.1
      have hd := fewU_drop ns k hlt m
      generalize ns[k] = x at *
      obtain ⟨kind, text, kp, kcap, kids, place⟩ := x
      simp only at hc hd
      obtain ⟨_, _, hts, hks, _, _⟩ := hf
      simp only at hts hks
      have c0 := cell_later hB hc.1
      have c1 := cell_later hB hc.2.1
      have c2 := cell_later hB hc.2.2.1
      have c3 := cell_later hB hc.2.2.2
      have hk0 : (0 : Int) ≤ (k : Int) := by omega
      have hk1 : (k : Int) < (ns.length : Int) := by omega
      unfold maxLen at hts hks hln
      rw [hR.out] at hd
      have HB := hid hB
      clear hB hc hR
      generalize hz : wrap64 (m + wrap64 (wrap64 (4 + (kids.length : Int)) + (text.size : Int))) = z at *
      have Hz := hid hz
      have Hd := hid hd
      clear hz hd
      go_wp2
      · rename_i h
        rw [Hz.out] at h
        have hd := Hd.out
        rw [if_pos h] at hd
        go_ret
        exact ⟨by rw [hd]; rfl, bA HB.out _⟩
      · rename_i h
        rw [Hz.out] at h
        have hd := Hd.out
        rw [if_neg (by simpa using h)] at hd
        go_roundw
        case rel => exact ⟨k + 1, _, by omega, by go_num, by rw [Hz.out], bA HB.out _, hd.symm⟩
        case measure => simp [intOf]; omega
    · obtain rfl : k = ns.length := by omega
      have hd := hR.out
      rw [List.drop_length] at hd
      go_wp2
      go_ret
      exact ⟨by rw [← hd]; rfl, hB⟩
/-- How much nodes are. -/
def sizeU : List Nd → Nat
  | [] => 0
  | x :: l => 4 + x.kids.length + x.text.size + sizeU l
theorem fewU_size : ∀ (ns : List Nd) (m : Int), (∀ x ∈ ns, x.text.size ≤ reachBytes ∧ x.kids.length ≤ reachBytes) → 0 ≤ m → m ≤ 4000 → fewU ns m = true → m + sizeU ns ≤ 4000
  | [], m, _, h0, h1, _ => by simp [sizeU]; omega
  | x :: l, m, hs, h0, h1, h => by
    have hx := hs x (by simp)
    unfold reachBytes at hx
    have e1 : wrap64 (4 + (x.kids.length : Int)) = 4 + (x.kids.length : Int) := IntWalk.wrap64_in _ (by omega)
    have e2 : wrap64 (4 + (x.kids.length : Int) + (x.text.size : Int)) = 4 + (x.kids.length : Int) + (x.text.size : Int) := IntWalk.wrap64_in _ (by omega)
    have e3 : wrap64 (m + (4 + (x.kids.length : Int) + (x.text.size : Int))) = m + (4 + (x.kids.length : Int) + (x.text.size : Int)) := IntWalk.wrap64_in _ (by omega)
    unfold fewU at h
    rw [e1, e2, e3] at h
    split at h
    · cases h
    · have := fewU_size l _ (fun y hy => hs y (by simp [hy])) (by omega) (by omega) h
      simp only [sizeU]
      omega
theorem sizeU_mem : ∀ {ns : List Nd} {x : Nd}, x ∈ ns → 4 + x.kids.length + x.text.size ≤ sizeU ns
  | y :: l, x, h => by
    simp only [sizeU]
    rcases List.mem_cons.1 h with rfl | h
    · omega
    · have := sizeU_mem h; omega
theorem sizeU_length : ∀ (ns : List Nd), 4 * ns.length ≤ sizeU ns
  | [] => by simp [sizeU]
  | x :: l => by have := sizeU_length l; simp only [sizeU, List.length_cons]; omega
theorem few8_small {ns : List Nd} (hs : Slim ns) (h : fewU ns 0 = true) : ns.length ≤ 1000 ∧ ∀ x ∈ ns, x.kids.length ≤ 4000 ∧ x.text.size ≤ 4000 := by
  have h1 := fewU_size ns 0 hs.2 (by omega) (by omega) h
  refine ⟨by have := sizeU_length ns; omega, fun x hx => ?_⟩
  have := sizeU_mem hx
  omega
end Go.Proofs.YtjchnliaglecoaaGreatDoor
