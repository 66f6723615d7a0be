/- Types that may be, in plain words. Conditions: none. -/
import Derived.Sort.Walk0
import Derived.Test.YtjchnliaglecoaaGreatDoorTyX
import Derived.Test.YtjchnliaglecoaaGreatDoorNrX
set_option linter.unusedVariables false
set_option linter.unusedSimpArgs false
namespace Go.Proofs.YtjchnliaglecoaaGreatDoor
open Go Go.RowKit Go.Nodes
set_option linter.unusedVariables false
set_option linter.unusedSimpArgs false
def skK : Sk → Int
  | .mk k _ _ => k
def skN : Sk → List ByteArray
  | .mk _ n _ => n
def skA : Sk → List Sk
  | .mk _ _ a => a
def leT (a b : ByteArray) : Bool := Op.bytesLess a.toList b.toList || a.toList == b.toList
def nameAt (ns : List ByteArray) (i : Nat) : ByteArray := ns.getD i ⟨#[]⟩
def argAt (qs : List Sk) (i : Nat) : Sk := qs.getD i (.mk 0 [] [])
/-- A field's name is one, and behind the one ahead of it; its type is flat. -/
def shapeAt (ns : List ByteArray) (qs : List Sk) (i : Nat) : Bool :=
  nameS (nameAt ns i).data.toList && (i == 0 || !leT (nameAt ns i) (nameAt ns (i - 1))) && (decide (0 ≤ skK (argAt qs i)) && decide (skK (argAt qs i) ≤ 7))
def shapeB (ns : List ByteArray) (qs : List Sk) : Bool := (List.range ns.length).all (shapeAt ns qs)
def lastK (qs : List Sk) (i : Nat) : Int := if i = 0 then 0 else skK (argAt qs (i - 1))
def unionAt (d : Int) (qs : List Sk) (i : Nat) : Bool := decide (d < 50) && decide (lastK qs i < skK (argAt qs i)) && decide (skK (argAt qs i) ≤ 6) && decide ((skN (argAt qs i)).length = 0) && decide ((skA (argAt qs i)).length = 0)
def unionB (d : Int) (qs : List Sk) : Bool := (List.range qs.length).all (unionAt d qs)
def chkL (g : Sk → Int → Option Int) : List Sk → Int → Option Int
  | [], m => some m
  | T :: l, m => match g T m with
    | none => none
    | some n => chkL g l n
/-- How many types are in one that may be. -/
def chk : Nat → Sk → Int → Int → Option Int
  | 0, _, _, _ => none
  | f + 1, .mk k ns qs, d, m =>
    if 50 < d ∨ 10000 < m + 1 then none
    else if 0 ≤ k ∧ k ≤ 6 then (if ns.length = 0 ∧ qs.length = 0 then some (m + 1) else none)
    else if k = 7 then (if unionB d qs = true ∧ ns.length = 0 ∧ 2 ≤ qs.length then some (m + 1 + qs.length) else none)
    else if k = 8 then (if ns.length = qs.length ∧ shapeB ns qs = true then chkL (fun T m => chk f T (d + 1) m) qs (m + 1) else none)
    else if k = 9 then (if ns.length = 0 ∧ qs.length ≠ 0 then chkL (fun T m => chk f T (d + 1) m) qs (m + 1) else none)
    else none
theorem chkL_drop (g : Sk → Int → Option Int) (l : List Sk) (i : Nat) (h : i < l.length) (m : Int) : chkL g (l.drop i) m = match g l[i] m with
    | none => none
    | some n => chkL g (l.drop (i + 1)) n := by
  rw [List.drop_eq_getElem_cons h]; rfl
theorem all_not {n i : Nat} {p : Nat → Bool} (hi : i < n) (h : p i = false) : (List.range n).all p = false := by
  rw [List.all_eq_false]
  exact ⟨i, List.mem_range.2 hi, by simp [h]⟩
theorem all_yes {n : Nat} {p : Nat → Bool} (h : ∀ j, j < n → p j = true) : (List.range n).all p = true := by
  rw [List.all_eq_true]
  exact fun j hj => h j (List.mem_range.1 hj)
theorem argAt_of {qs : List Sk} {i : Nat} (h : i < qs.length) : argAt qs i = qs[i] := by
  unfold argAt; rw [List.getD, List.getElem?_eq_getElem h]; rfl
theorem nameAt_of {ns : List ByteArray} {i : Nat} (h : i < ns.length) : nameAt ns i = ns[i] := by
  unfold nameAt; rw [List.getD, List.getElem?_eq_getElem h]; rfl
/-- Kinds that rise from 1 to 6 are few. -/
theorem lastK_ge {d : Int} {qs : List Sk} {i : Nat} (h : ∀ j, j < i → unionAt d qs j = true) : (i : Int) ≤ lastK qs i ∧ lastK qs i ≤ 6 := by
  induction i with
  | zero => simp [lastK]
  | succ i ih =>
    have h1 := ih fun j hj => h j (by omega)
    have h2 := h i (by omega)
    unfold unionAt at h2
    simp only [Bool.and_eq_true, decide_eq_true_eq] at h2
    have e : lastK qs (i + 1) = skK (argAt qs i) := by unfold lastK; rw [if_neg (by omega)]; rfl
    rw [e]
    omega
theorem unionB_len {d : Int} {qs : List Sk} (h : unionB d qs = true) : qs.length ≤ 6 := by
  unfold unionB at h
  rw [List.all_eq_true] at h
  have := lastK_ge (d := d) (qs := qs) (i := qs.length) fun j hj => h j (List.mem_range.2 hj)
  omega
/-- What is answered is not less, nor much. -/
theorem chkL_le {g : Sk → Int → Option Int} {B : Int} (hg : ∀ T m r, g T m = some r → m ≤ r ∧ r ≤ B) : ∀ (l : List Sk) (m r : Int), m ≤ B → chkL g l m = some r → m ≤ r ∧ r ≤ B
  | [], m, r, hm, h => by cases h; exact ⟨Int.le_refl _, hm⟩
  | T :: l, m, r, hm, h => by
    unfold chkL at h
    split at h
    · cases h
    · rename_i n hn
      obtain ⟨h1, h2⟩ := hg T m n hn
      obtain ⟨h3, h4⟩ := chkL_le hg l n r h2 h
      exact ⟨by omega, h4⟩
theorem chk_le : ∀ (f : Nat) (T : Sk) (d m r : Int), chk f T d m = some r → m ≤ r ∧ r ≤ 10006
  | 0, _, _, _, _, h => by cases h
  | f + 1, .mk k ns qs, d, m, r, h => by
    unfold chk at h
    split at h
    · cases h
    · rename_i h0
      split at h
      · split at h
        · cases h; omega
        · cases h
      · split at h
        · split at h
          · rename_i h1
            have := unionB_len h1.1
            cases h; omega
          · cases h
        · split at h
          · split at h
            · have := chkL_le (fun T m r h => chk_le f T (d + 1) m r h) qs (m + 1) r (by omega) h
              omega
            · cases h
          · split at h
            · split at h
              · have := chkL_le (fun T m r h => chk_le f T (d + 1) m r h) qs (m + 1) r (by omega) h
                omega
              · cases h
            · cases h
end Go.Proofs.YtjchnliaglecoaaGreatDoor
