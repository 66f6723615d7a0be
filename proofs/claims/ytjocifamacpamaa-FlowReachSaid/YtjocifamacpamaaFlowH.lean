/- What from and reach come to: both end, and go step for step. Conditions: none. -/
import Derived.Test.YtjocifamacpamaaFlowG
namespace Go.Proofs.Ytjocifamacpamaa
set_option linter.unusedVariables false
theorem count_set_false (out : List Bool) (i : Nat) (h : out.getD i true = false) : (out.set i true).count false + 1 = out.count false := by
  induction out generalizing i with
  | nil => simp at h
  | cons b l ih =>
    cases i with
    | zero => simp at h; subst h; simp
    | succ i =>
      have := ih i (by simpa using h)
      cases b <;> simp [List.count_cons] <;> omega
theorem fromF_total (nx : Nat → List Int) (shut : Int) (hnx : ∀ i, (nx i).length ≤ 2) : ∀ (k : Nat) (todo : List Int) (out : List Bool), todo.length + 3 * out.count false < k → ∃ R, fromF nx shut k todo out = some R ∧ R.length = out.length
  | 0, todo, out, h => by omega
  | k + 1, todo, out, h => by
    rcases List.eq_nil_or_concat todo with rfl | ⟨ys, a, htd⟩
    · exact ⟨out, by simp [fromF], rfl⟩
    · rw [List.concat_eq_append] at htd
      subst htd
      simp only [List.length_append, List.length_cons, List.length_nil] at h
      rw [fromF_at]
      split
      · rename_i hc
        have hcs := count_set_false out a.toNat hc.2.2
        have := hnx a.toNat
        obtain ⟨R, h1, h2⟩ := fromF_total nx shut hnx k (ys ++ nx a.toNat) (out.set a.toNat true) (by simp only [List.length_append]; omega)
        exact ⟨R, h1, by simpa using h2⟩
      · exact fromF_total nx shut hnx k ys out (by omega)
/-- Step for step: nothing shut. -/
theorem lock (nx : Nat → List Int) (len : Nat) (hnx : ∀ i, ∀ x ∈ nx i, -1 ≤ x ∧ x < len) : ∀ (k : Nat) (todo : List Int) (out R : List Bool) (b : Bool), out.length = len → (∀ x ∈ todo, -1 ≤ x ∧ x < len) → fromF nx (-1) k todo out = some R → ∃ b', refF nx len (-2) k todo (out ++ [b]) = some (R ++ [b'])
  | 0, todo, out, R, b, hl, ht, h => by simp [fromF] at h
  | k + 1, todo, out, R, b, hl, ht, h => by
    rcases List.eq_nil_or_concat todo with rfl | ⟨ys, a, htd⟩
    · simp [fromF] at h; subst h; exact ⟨b, by simp [refF]⟩
    · rw [List.concat_eq_append] at htd
      subst htd
      have ha := ht a (by simp)
      have hys : ∀ x ∈ ys, -1 ≤ x ∧ x < len := fun x hx => ht x (by simp [hx])
      rw [fromF_at] at h
      rw [refF_at, if_neg (by omega)]
      by_cases h1 : a = -1
      · subst h1
        rw [if_neg (by omega)] at h
        rw [if_pos rfl]
        obtain ⟨b', hb⟩ := lock nx len hnx k ys out R true hl hys h
        refine ⟨b', ?_⟩
        rw [← hb]
        congr 1
        subst hl
        simp
      · rw [if_neg h1]
        have hlt : a.toNat < out.length := by omega
        have hgd : (out ++ [b]).getD a.toNat true = out.getD a.toNat true := by simp [List.getD, List.getElem?_append_left hlt]
        rw [hgd]
        by_cases h2 : out.getD a.toNat true = false
        · rw [if_pos ⟨by omega, h1, h2⟩] at h
          rw [if_pos h2]
          obtain ⟨b', hb⟩ := lock nx len hnx k (ys ++ nx a.toNat) (out.set a.toNat true) R b (by simpa using hl) (fun x hx => (List.mem_append.1 hx).elim (hys x) (hnx _ x)) h
          refine ⟨b', ?_⟩
          rw [← hb, List.set_append_left _ _ hlt]
        · rw [if_neg (fun hc => h2 hc.2.2)] at h
          rw [if_neg h2]
          exact lock nx len hnx k ys out R b hl hys h
end Go.Proofs.Ytjocifamacpamaa
