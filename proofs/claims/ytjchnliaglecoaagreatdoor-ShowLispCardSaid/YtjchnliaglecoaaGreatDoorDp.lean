/- How deep nodes are: what is reckoned. Conditions: none. -/
import Derived.Test.YtjchnliaglecoaaGreatDoorNodesB
import Derived.Test.YtjchnliaglecoaaGreatDoorFw
set_option linter.unusedVariables false
set_option linter.unusedSimpArgs false
namespace Go.Proofs.YtjchnliaglecoaaGreatDoor
open Go Go.RowKit Go.Nodes
set_option linter.unusedVariables false
/-- How much nodes are. -/
def sizeN : List Nd → Nat
  | [] => 0
  | x :: l => 4 + x.kids.length + x.text.size + sizeN l
theorem fewS_size : ∀ (ns : List Nd) (m : Int), (∀ x ∈ ns, x.text.size ≤ reachBytes ∧ x.kids.length ≤ reachBytes) → 0 ≤ m → m ≤ 8000 → fewS ns m = true → m + sizeN ns ≤ 8000
  | [], m, _, h0, h1, _ => by simp [sizeN]; omega
  | x :: l, m, hs, h0, h1, h => by
    have hx := hs x (by simp)
    unfold reachBytes at hx
    have e1 : wrap64 (4 + (x.kids.length : Int)) = 4 + (x.kids.length : Int) := IntWalk.wrap64_in _ (by omega)
    have e2 : wrap64 (4 + (x.kids.length : Int) + (x.text.size : Int)) = 4 + (x.kids.length : Int) + (x.text.size : Int) := IntWalk.wrap64_in _ (by omega)
    have e3 : wrap64 (m + (4 + (x.kids.length : Int) + (x.text.size : Int))) = m + (4 + (x.kids.length : Int) + (x.text.size : Int)) := IntWalk.wrap64_in _ (by omega)
    unfold fewS at h
    rw [e1, e2, e3] at h
    split at h
    · cases h
    · have := fewS_size l _ (fun y hy => hs y (by simp [hy])) (by omega) (by omega) h
      simp only [sizeN]
      omega
theorem sizeN_mem : ∀ {ns : List Nd} {x : Nd}, x ∈ ns → 4 + x.kids.length + x.text.size ≤ sizeN ns
  | y :: l, x, h => by
    simp only [sizeN]
    rcases List.mem_cons.1 h with rfl | h
    · omega
    · have := sizeN_mem h; omega
theorem sizeN_length : ∀ (ns : List Nd), 4 * ns.length ≤ sizeN ns
  | [] => by simp [sizeN]
  | x :: l => by have := sizeN_length l; simp only [sizeN, List.length_cons]; omega
/-- Small nodes. -/
def Small (ns : List Nd) : Prop := ns.length ≤ 5000 ∧ ∀ x ∈ ns, x.kids.length ≤ 20000 ∧ x.text.size ≤ 20000
theorem small_of {ns : List Nd} (hs : Slim ns) (h : fewS ns 0 = true) : Small ns := by
  have h1 := fewS_size ns 0 hs.2 (by omega) (by omega) h
  refine ⟨by have := sizeN_length ns; omega, fun x hx => ?_⟩
  have := sizeN_mem hx
  omega
/-- The deepest of the kids that stand ahead. -/
def kidMax (ds : List Int) : List Int → Int → Int
  | [], m => m
  | k :: l, m => kidMax ds l (if 0 ≤ k ∧ k < ds.length then max m (ds.getD k.toNat 0) else m)
/-- How deep each stands. -/
def deepsF : List Nd → List Int → List Int
  | [], ds => ds
  | x :: l, ds => deepsF l (ds ++ [kidMax ds x.kids 0 + 1])
def lastD (ds : List Int) : Int := ds.getLastD 0
def deepOf (ns : List Nd) : Int := lastD (deepsF ns [])
theorem deepsF_drop (ns : List Nd) (k : Nat) (hk : k < ns.length) (ds : List Int) : deepsF (ns.drop k) ds = deepsF (ns.drop (k + 1)) (ds ++ [kidMax ds ns[k].kids 0 + 1]) := by
  rw [List.drop_eq_getElem_cons hk]; rfl
theorem kidMax_drop (ds : List Int) (l : List Int) (j : Nat) (hj : j < l.length) (m : Int) : kidMax ds (l.drop j) m = kidMax ds (l.drop (j + 1)) (if 0 ≤ l[j] ∧ l[j] < ds.length then max m (ds.getD l[j].toNat 0) else m) := by
  rw [List.drop_eq_getElem_cons hj]; rfl
theorem kidMax_le (ds : List Int) (b : Int) (hb : 0 ≤ b) (hd : ∀ d ∈ ds, 0 ≤ d ∧ d ≤ b) : ∀ (l : List Int) (m : Int), 0 ≤ m → m ≤ b → 0 ≤ kidMax ds l m ∧ kidMax ds l m ≤ b
  | [], m, h0, h1 => ⟨h0, h1⟩
  | k :: l, m, h0, h1 => by
    unfold kidMax
    refine kidMax_le ds b hb hd l _ ?_ ?_ <;> split <;> try assumption
    · omega
    · rename_i h
      have hk : k.toNat < ds.length := by omega
      have := hd (ds[k.toNat]) (List.getElem_mem hk)
      rw [show ds.getD k.toNat 0 = ds[k.toNat] by simp [List.getD, List.getElem?_eq_getElem hk]]
      omega
end Go.Proofs.YtjchnliaglecoaaGreatDoor
