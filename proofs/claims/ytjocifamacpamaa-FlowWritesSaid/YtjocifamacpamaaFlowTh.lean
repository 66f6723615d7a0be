/- What from and reach come to: both end, and go step for step. Conditions: none. -/
import Derived.Test.YtjocifamacpamaaFlowG
namespace Go.Proofs.Ytjocifamacpamaa
set_option linter.unusedVariables false
theorem count_set_false (out : List Bool) (i : Nat) (h : out.getD i true = false) : (out.set i true).count false + 1 = out.count false := by
  induction out generalizing i with
  | nil => simp at h
  | cons b l ih =>
    cases i with
    | zero => simp at h; subst h; simp
    | succ i =>
      have := ih i (by simpa using h)
      cases b <;> simp [List.count_cons] <;> omega
theorem fromF_total (nx : Nat → List Int) (shut : Int) (hnx : ∀ i, (nx i).length ≤ 2) : ∀ (k : Nat) (todo : List Int) (out : List Bool), todo.length + 3 * out.count false < k → ∃ R, fromF nx shut k todo out = some R ∧ R.length = out.length
  | 0, todo, out, h => by omega
  | k + 1, todo, out, h => by
    rcases List.eq_nil_or_concat todo with rfl | ⟨ys, a, htd⟩
    · exact ⟨out, by simp [fromF], rfl⟩
    · rw [List.concat_eq_append] at htd
      subst htd
      simp only [List.length_append, List.length_cons, List.length_nil] at h
      rw [fromF_at]
      split
      · rename_i hc
        have hcs := count_set_false out a.toNat hc.2.2
        have := hnx a.toNat
        obtain ⟨R, h1, h2⟩ := fromF_total nx shut hnx k (ys ++ nx a.toNat) (out.set a.toNat true) (by simp only [List.length_append]; omega)
        exact ⟨R, h1, by simpa using h2⟩
      · exact fromF_total nx shut hnx k ys out (by omega)
/-- Step for step: nothing shut. -/
theorem lock (nx : Nat → List Int) (len : Nat) (hnx : ∀ i, ∀ x ∈ nx i, -1 ≤ x ∧ x < len) : ∀ (k : Nat) (todo : List Int) (out R : List Bool) (b : Bool), out.length = len → (∀ x ∈ todo, -1 ≤ x ∧ x < len) → fromF nx (-1) k todo out = some R → ∃ b', refF nx len (-2) k todo (out ++ [b]) = some (R ++ [b'])
  | 0, todo, out, R, b, hl, ht, h => by simp [fromF] at h
  | k + 1, todo, out, R, b, hl, ht, h => by
    rcases List.eq_nil_or_concat todo with rfl | ⟨ys, a, htd⟩
    · simp [fromF] at h; subst h; exact ⟨b, by simp [refF]⟩
    · rw [List.concat_eq_append] at htd
      subst htd
      have ha := ht a (by simp)
      have hys : ∀ x ∈ ys, -1 ≤ x ∧ x < len := fun x hx => ht x (by simp [hx])
      rw [fromF_at] at h
      rw [refF_at, if_neg (by omega)]
      by_cases h1 : a = -1
      · subst h1
        rw [if_neg (by omega)] at h
        rw [if_pos rfl]
        obtain ⟨b', hb⟩ := lock nx len hnx k ys out R true hl hys h
        refine ⟨b', ?_⟩
        rw [← hb]
        congr 1
        subst hl
        simp
      · rw [if_neg h1]
        have hlt : a.toNat < out.length := by omega
        have hgd : (out ++ [b]).getD a.toNat true = out.getD a.toNat true := by simp [List.getD, List.getElem?_append_left hlt]
        rw [hgd]
        by_cases h2 : out.getD a.toNat true = false
        · rw [if_pos ⟨by omega, h1, h2⟩] at h
          rw [if_pos h2]
          obtain ⟨b', hb⟩ := lock nx len hnx k (ys ++ nx a.toNat) (out.set a.toNat true) R b (by simpa using hl) (fun x hx => (List.mem_append.1 hx).elim (hys x) (hnx _ x)) h
          refine ⟨b', ?_⟩
          rw [← hb, List.set_append_left _ _ hlt]
        · rw [if_neg (fun hc => h2 hc.2.2)] at h
          rw [if_neg h2]
          exact lock nx len hnx k ys out R b hl hys h
end Go.Proofs.Ytjocifamacpamaa

/- Ways through words, and what lies on each way to the end: plain. Conditions: none. -/
namespace Go.Proofs.Ytjocifamacpamaa
set_option linter.unusedVariables false
/-- A way from one place to another that never comes to a third. -/
inductive Way (nx : Nat → List Int) (shut : Int) : Int → Int → Prop
  | here {a : Int} : a ≠ shut → Way nx shut a a
  | step {a b c : Int} : a ≠ shut → 0 ≤ a → b ∈ nx a.toNat → Way nx shut b c → Way nx shut a c
variable {nx : Nat → List Int}
theorem Way.left {s a b : Int} (h : Way nx s a b) : a ≠ s := by cases h <;> assumption
theorem Way.right {s a b : Int} (h : Way nx s a b) : b ≠ s := by induction h <;> assumption
theorem Way.trans {s a b c : Int} (h : Way nx s a b) (k : Way nx s b c) : Way nx s a c := by
  induction h with
  | here _ => exact k
  | step h1 h2 h3 _ ih => exact .step h1 h2 h3 (ih k)
theorem Way.wide {s a b : Int} (hnx : ∀ i, ∀ x ∈ nx i, -1 ≤ x) (h : Way nx s a b) (ha : -1 ≤ a) : Way nx (-2) a b := by
  induction h with
  | here _ => exact .here (by omega)
  | step h1 h2 h3 _ ih => exact .step (by omega) h2 h3 (ih (hnx _ _ h3))
theorem Way.cut {m a c : Int} (x : Int) (h : Way nx m a c) : Way nx x a c ∨ Way nx m x c := by
  induction h with
  | @here a h =>
    by_cases e : a = x
    · subst e; exact .inr (.here h)
    · exact .inl (.here e)
  | @step a b c h1 h2 h3 h4 ih =>
    rcases ih with ih | ih
    · by_cases e : a = x
      · subst e; exact .inr (.step h1 h2 h3 h4)
      · exact .inl (.step e h2 h3 ih)
    · exact .inr ih
/-- Behind: n lies on each way from a to the end. -/
def Pd (nx : Nat → List Int) (n a : Int) : Prop := ¬ Way nx n a (-1)
theorem Pd.self (n : Int) : Pd nx n n := fun h => h.left rfl
theorem Pd.trans {m x a : Int} (h : Pd nx m x) (k : Pd nx x a) : Pd nx m a := fun w => (w.cut x).elim k h
theorem Pd.next {x a b : Int} (h : Pd nx x a) (hx : a ≠ x) (ha : 0 ≤ a) (hb : b ∈ nx a.toNat) : Pd nx x b := fun w => h (.step hx ha hb w)
theorem first {x y a : Int} (hxy : x ≠ y) (hx : 0 ≤ x) (h : Way nx (-2) a (-1)) : Pd nx x a → Way nx y a x ∨ Way nx x a y := by
  generalize hc : (-1 : Int) = c at h
  induction h with
  | @here a h => intro hp; subst hc; exact absurd (Way.here (by omega)) hp
  | @step a b c h1 h2 h3 h4 ih =>
    intro hp
    by_cases e : a = x
    · subst e; exact .inl (.here hxy)
    by_cases e2 : a = y
    · subst e2; exact .inr (.here (fun h => hxy h.symm))
    rcases ih hc (hp.next e h2 h3) with h | h
    · exact .inl (.step e2 h2 h3 h)
    · exact .inr (.step e h2 h3 h)
theorem last {m d a : Int} (hmd : m ≠ d) (hm : 0 ≤ m) (hd : 0 ≤ d) (h : Way nx (-2) a (-1)) : (Way nx m a (-1) ∧ Way nx d a (-1)) ∨ Way nx m d (-1) ∨ Way nx d m (-1) := by
  generalize hc : (-1 : Int) = c at h
  induction h with
  | @here a h => subst hc; exact .inl ⟨.here (by omega), .here (by omega)⟩
  | @step a b c h1 h2 h3 h4 ih =>
    rcases ih hc with ⟨i1, i2⟩ | h
    · by_cases e : a = d
      · subst e; exact .inr (.inl (.step (fun h => hmd h.symm) h2 h3 i1))
      by_cases e2 : a = m
      · subst e2; exact .inr (.inr (.step e h2 h3 i2))
      exact .inl ⟨.step e2 h2 h3 i1, .step e h2 h3 i2⟩
    · exact .inr h
theorem Pd.anti {m d : Int} (hmd : m ≠ d) (hm : 0 ≤ m) (hd : 0 ≤ d) (h : Way nx (-2) d (-1)) (h1 : Pd nx m d) (h2 : Pd nx d m) : False := by
  rcases last hmd hm hd h with ⟨_, w⟩ | w | w
  · exact w.left rfl
  · exact h1 w
  · exact h2 w
theorem Pd.chain {x y a : Int} (hxy : x ≠ y) (hx : 0 ≤ x) (h : Way nx (-2) a (-1)) (h1 : Pd nx x a) (h2 : Pd nx y a) : Pd nx y x ∨ Pd nx x y := by
  by_cases hyx : Way nx y x (-1)
  · by_cases hxy' : Way nx x y (-1)
    · rcases first hxy hx h h1 with w | w
      · exact absurd (w.trans hyx) h2
      · exact absurd (w.trans hxy') h1
    · exact .inr hxy'
  · exact .inl hyx
/-- Who lies on each way has a way to the end. -/
theorem Pd.ends {n a : Int} (hnx : ∀ i, ∀ x ∈ nx i, -1 ≤ x) (hn : -1 ≤ n) (h : Way nx (-2) a (-1)) (hp : Pd nx n a) : Way nx (-2) n (-1) :=
  (h.cut n).elim (fun w => absurd w hp) id
/-- The nearest: behind the word, not itself, and all others behind the word are behind it. -/
structure Near (nx : Nat → List Int) (len : Nat) (a d : Int) : Prop where
  ne : d ≠ a
  lo : 0 ≤ d
  hi : d < len
  pd : Pd nx d a
  far : ∀ m : Int, 0 ≤ m → m < len → m ≠ a → Pd nx m a → Pd nx m d
theorem Near.only {len : Nat} {a d e : Int} (hnx : ∀ i, ∀ x ∈ nx i, -1 ≤ x) (h : Way nx (-2) a (-1)) (h1 : Near nx len a d) (h2 : Near nx len a e) : d = e := by
  by_cases hde : d = e
  · exact hde
  · exact (Pd.anti hde h1.lo h2.lo (Pd.ends hnx (by have := h2.lo; omega) h h2.pd) (h2.far d h1.lo h1.hi h1.ne h1.pd) (h1.far e h2.lo h2.hi h2.ne h2.pd)).elim
/-- The reference's test: none of the others is come to, where it is shut. -/
theorem Near.apart {len : Nat} {a d m : Int} (hnx : ∀ i, ∀ x ∈ nx i, -1 ≤ x) (ha : 0 ≤ a) (h : Way nx (-2) a (-1)) (hd : Near nx len a d) (hm0 : 0 ≤ m) (hm1 : m < len) (hma : m ≠ a) (hmd : m ≠ d) (hp : Pd nx m a) {b : Int} (hb : b ∈ nx a.toNat) : ¬ Way nx d b m := fun w => by
  have h1 := hd.far m hm0 hm1 hma hp
  have h2 : Way nx d m (-1) := Classical.byContradiction fun h2 => Pd.anti hmd hm0 hd.lo (Pd.ends hnx (by have := hd.lo; omega) h hd.pd) h1 h2
  exact (hd.pd.next (fun e => hd.ne e.symm) ha hb) (w.trans h2)
theorem Near.meets {len : Nat} {a d n : Int} (hnx : ∀ i, ∀ x ∈ nx i, -1 ≤ x) (ha : 0 ≤ a) (h : Way nx (-2) a (-1)) (hd : Near nx len a d) (hn0 : 0 ≤ n) (hn1 : n < len) (hna : n ≠ a) (hnd : n ≠ d) (hp : Pd nx n a) : ∃ b ∈ nx a.toNat, Way nx n b d := by
  have hnd' := hd.far n hn0 hn1 hna hp
  have h2 : Way nx d n (-1) := Classical.byContradiction fun h2 => Pd.anti hnd hn0 hd.lo (Pd.ends hnx (by have := hd.lo; omega) h hd.pd) hnd' h2
  cases h with
  | here h => omega
  | step h1 _ h3 h4 =>
    refine ⟨_, h3, ?_⟩
    have hpd := hd.pd.next (fun e => hd.ne e.symm) ha h3
    rcases first (fun e => hnd e.symm) hd.lo h4 hpd with w | w
    · exact w
    · exact absurd (w.trans h2) hpd
end Go.Proofs.Ytjocifamacpamaa

/- What reach answers, and the nearest place: plain. Conditions: none. -/
namespace Go.Proofs.Ytjocifamacpamaa
set_option linter.unusedVariables false
variable {nx : Nat → List Int}
/-- Whether a place, or the end, is marked. -/
def mkd (len : Nat) (out : List Bool) (n : Int) : Bool := out.getD (if n = -1 then len else n.toNat) false
theorem mkd_set (len : Nat) (out : List Bool) (a n : Int) (hl : out.length = len + 1) (ha : -1 ≤ a) (ha2 : a < len) (hn : -1 ≤ n) (hn2 : n < len) :
    mkd len (out.set (if a = -1 then len else a.toNat) true) n = if n = a then true else mkd len out n := by
  unfold mkd
  by_cases h : n = a
  · subst h
    rw [if_pos rfl]
    have : (if n = -1 then len else n.toNat) < out.length := by split <;> omega
    simp [List.getD, this]
  · rw [if_neg h]
    have : (if a = -1 then len else a.toNat) ≠ (if n = -1 then len else n.toNat) := by split <;> split <;> omega
    simp [List.getD, List.getElem?_set_ne this]
theorem refF_spec (len : Nat) (shut : Int) (hnx : ∀ i, ∀ x ∈ nx i, -1 ≤ x ∧ x < len) : ∀ (k : Nat) (todo : List Int) (out R : List Bool), out.length = len + 1 → (∀ x ∈ todo, -1 ≤ x ∧ x < len) →
    (∀ n : Int, 0 ≤ n → n < len → mkd len out n = true → n ≠ shut ∧ ∀ b ∈ nx n.toNat, b = shut ∨ mkd len out b = true ∨ b ∈ todo) → refF nx len shut k todo out = some R →
    R.length = len + 1 ∧ (∀ n : Int, -1 ≤ n → n < len → mkd len out n = true → mkd len R n = true) ∧ (∀ a ∈ todo, a ≠ shut → mkd len R a = true) ∧
      (∀ n : Int, 0 ≤ n → n < len → mkd len R n = true → n ≠ shut ∧ ∀ b ∈ nx n.toNat, b = shut ∨ mkd len R b = true) ∧
      (∀ n : Int, -1 ≤ n → n < len → mkd len R n = true → mkd len out n = true ∨ ∃ a ∈ todo, Way nx shut a n)
  | 0, todo, out, R, hl, ht, hi, h => by simp [refF] at h
  | k + 1, todo, out, R, hl, ht, hi, h => by
    rcases List.eq_nil_or_concat todo with rfl | ⟨ys, a, htd⟩
    · simp [refF] at h
      subst h
      exact ⟨hl, fun _ _ _ h => h, fun a h => by simp at h, fun n h1 h2 h3 => ⟨(hi n h1 h2 h3).1, fun b hb => by
        rcases (hi n h1 h2 h3).2 b hb with h | h | h
        · exact .inl h
        · exact .inr h
        · simp at h⟩, fun _ _ _ h => .inl h⟩
    · rw [List.concat_eq_append] at htd
      subst htd
      have ha := ht a (by simp)
      have hys : ∀ x ∈ ys, -1 ≤ x ∧ x < len := fun x hx => ht x (by simp [hx])
      rw [refF_at] at h
      by_cases h0 : a = shut
      · rw [if_pos h0] at h
        obtain ⟨r1, r2, r3, r4, r5⟩ := refF_spec len shut hnx k ys out R hl hys (fun n h1 h2 h3 => ⟨(hi n h1 h2 h3).1, fun b hb => by
          rcases (hi n h1 h2 h3).2 b hb with h | h | h
          · exact .inl h
          · exact .inr (.inl h)
          · rcases List.mem_append.1 h with h | h
            · exact .inr (.inr h)
            · simp at h; subst h; exact .inl h0⟩) h
        refine ⟨r1, r2, fun x hx hxs => ?_, r4, fun n h1 h2 h3 => ?_⟩
        · rcases List.mem_append.1 hx with h | h
          · exact r3 x h hxs
          · simp at h; subst h; exact absurd h0 hxs
        · rcases r5 n h1 h2 h3 with h | ⟨x, hx, hw⟩
          · exact .inl h
          · exact .inr ⟨x, by simp [hx], hw⟩
      rw [if_neg h0] at h
      have hset := fun n hn hn2 => mkd_set len out a n hl ha.1 ha.2 hn hn2
      by_cases h1 : a = -1
      · rw [if_pos h1] at h
        rw [if_pos h1] at hset
        obtain ⟨r1, r2, r3, r4, r5⟩ := refF_spec len shut hnx k ys (out.set len true) R (by simpa using hl) hys (fun n q1 q2 q3 => by
          have hne : n ≠ a := by omega
          rw [hset n (by omega) q2, if_neg hne] at q3
          refine ⟨(hi n q1 q2 q3).1, fun b hb => ?_⟩
          rcases (hi n q1 q2 q3).2 b hb with h | h | h
          · exact .inl h
          · refine .inr (.inl ?_); rw [hset b (hnx _ b hb).1 (hnx _ b hb).2]; split
            · rfl
            · exact h
          · rcases List.mem_append.1 h with h | h
            · exact .inr (.inr h)
            · simp at h; refine .inr (.inl ?_); rw [hset b (hnx _ b hb).1 (hnx _ b hb).2, if_pos h]) h
        refine ⟨r1, fun n q1 q2 q3 => r2 n q1 q2 ?_, fun x hx hxs => ?_, r4, fun n q1 q2 q3 => ?_⟩
        · rw [hset n q1 q2]; split
          · rfl
          · exact q3
        · rcases List.mem_append.1 hx with h | h
          · exact r3 x h hxs
          · simp at h; subst h
            exact r2 x ha.1 ha.2 (by rw [hset x ha.1 ha.2, if_pos rfl])
        · rcases r5 n q1 q2 q3 with h | ⟨x, hx, hw⟩
          · rw [hset n q1 q2] at h
            split at h
            · rename_i e; exact .inr ⟨a, by simp, by rw [e]; exact .here h0⟩
            · exact .inl h
          · exact .inr ⟨x, by simp [hx], hw⟩
      rw [if_neg h1] at h
      rw [if_neg h1] at hset
      have hlt : a.toNat < out.length := by omega
      by_cases h2 : out.getD a.toNat true = false
      · rw [if_pos h2] at h
        obtain ⟨r1, r2, r3, r4, r5⟩ := refF_spec len shut hnx k (ys ++ nx a.toNat) (out.set a.toNat true) R (by simpa using hl) (fun x hx => (List.mem_append.1 hx).elim (hys x) (hnx _ x)) (fun n q1 q2 q3 => by
          rw [hset n (by omega) q2] at q3
          by_cases hne : n = a
          · subst hne
            exact ⟨h0, fun b hb => .inr (.inr (by simp [hb]))⟩
          rw [if_neg hne] at q3
          refine ⟨(hi n q1 q2 q3).1, fun b hb => ?_⟩
          rcases (hi n q1 q2 q3).2 b hb with h | h | h
          · exact .inl h
          · refine .inr (.inl ?_); rw [hset b (hnx _ b hb).1 (hnx _ b hb).2]; split
            · rfl
            · exact h
          · rcases List.mem_append.1 h with h | h
            · exact .inr (.inr (by simp [h]))
            · simp at h; refine .inr (.inl ?_); rw [hset b (hnx _ b hb).1 (hnx _ b hb).2, if_pos h]) h
        refine ⟨r1, fun n q1 q2 q3 => r2 n q1 q2 ?_, fun x hx hxs => ?_, r4, fun n q1 q2 q3 => ?_⟩
        · rw [hset n q1 q2]; split
          · rfl
          · exact q3
        · rcases List.mem_append.1 hx with h | h
          · exact r3 x (by simp [h]) hxs
          · simp at h; subst h
            exact r2 x ha.1 ha.2 (by rw [hset x ha.1 ha.2, if_pos rfl])
        · rcases r5 n q1 q2 q3 with h | ⟨x, hx, hw⟩
          · rw [hset n q1 q2] at h
            split at h
            · rename_i e; exact .inr ⟨a, by simp, by rw [e]; exact .here h0⟩
            · exact .inl h
          · rcases List.mem_append.1 hx with hx | hx
            · exact .inr ⟨x, by simp [hx], hw⟩
            · exact .inr ⟨a, by simp, .step h0 (by omega) hx hw⟩
      · rw [if_neg h2] at h
        have hma : mkd len out a = true := by
          unfold mkd; rw [if_neg h1]
          simp only [List.getD, List.getElem?_eq_getElem hlt, Option.getD_some] at h2 ⊢
          simpa using h2
        obtain ⟨r1, r2, r3, r4, r5⟩ := refF_spec len shut hnx k ys out R hl hys (fun n q1 q2 q3 => by
          refine ⟨(hi n q1 q2 q3).1, fun b hb => ?_⟩
          rcases (hi n q1 q2 q3).2 b hb with h | h | h
          · exact .inl h
          · exact .inr (.inl h)
          · rcases List.mem_append.1 h with h | h
            · exact .inr (.inr h)
            · simp at h; subst h; exact .inr (.inl hma)) h
        refine ⟨r1, r2, fun x hx hxs => ?_, r4, fun n q1 q2 q3 => ?_⟩
        · rcases List.mem_append.1 hx with h | h
          · exact r3 x h hxs
          · simp at h; subst h; exact r2 x ha.1 ha.2 hma
        · rcases r5 n q1 q2 q3 with h | ⟨x, hx, hw⟩
          · exact .inl h
          · exact .inr ⟨x, by simp [hx], hw⟩
theorem mkd_none (len : Nat) (n : Int) : mkd len (List.replicate (len + 1) false) n = false := by
  unfold mkd
  simp only [List.getD, List.getElem?_replicate]
  split <;> split <;> rfl
/-- What reach answers: what a way leads to. -/
theorem refF_way {len : Nat} {shut : Int} {k : Nat} {todo : List Int} {R : List Bool} (hnx : ∀ i, ∀ x ∈ nx i, -1 ≤ x ∧ x < len) (ht : ∀ x ∈ todo, -1 ≤ x ∧ x < len) (h : refF nx len shut k todo (List.replicate (len + 1) false) = some R) :
    R.length = len + 1 ∧ ∀ n : Int, -1 ≤ n → n < len → (mkd len R n = true ↔ ∃ a ∈ todo, Way nx shut a n) := by
  obtain ⟨r1, r2, r3, r4, r5⟩ := refF_spec len shut hnx k todo _ R (by simp) ht (fun n h1 h2 h3 => by rw [mkd_none] at h3; cases h3) h
  refine ⟨r1, fun n h1 h2 => ⟨fun h3 => ?_, fun hx => ?_⟩⟩
  · rcases r5 n h1 h2 h3 with h | h
    · rw [mkd_none] at h; cases h
    · exact h
  · obtain ⟨a, ha, hw⟩ := hx
    have h4 := r3 a ha hw.left
    have h5 := ht a ha
    clear ha h1 h2
    induction hw with
    | here _ => exact h4
    | @step a b c q1 q2 q3 q4 ih =>
      rcases (r4 a q2 h5.2 h4).2 b q3 with e | e
      · exact absurd e q4.left
      · exact ih e (hnx _ _ q3)
theorem refF_total (len : Nat) (shut : Int) (hnx : ∀ i, (nx i).length ≤ 2) : ∀ (k : Nat) (todo : List Int) (out : List Bool), todo.length + 3 * out.count false < k → ∃ R, refF nx len shut k todo out = some R
  | 0, todo, out, h => by omega
  | k + 1, todo, out, h => by
    rcases List.eq_nil_or_concat todo with rfl | ⟨ys, a, htd⟩
    · exact ⟨out, by simp [refF]⟩
    · rw [List.concat_eq_append] at htd
      subst htd
      simp only [List.length_append, List.length_cons, List.length_nil] at h
      rw [refF_at]
      split
      · exact refF_total len shut hnx k ys out (by omega)
      split
      · refine refF_total len shut hnx k ys _ ?_
        have : (out.set len true).count false ≤ out.count false := by
          by_cases hl : out.getD len true = false
          · have := count_set_false out len hl; omega
          · by_cases hlt : len < out.length
            · have he : out[len] = true := by simpa [List.getD, hlt] using hl
              have : out.set len true = out := by
                apply List.ext_getElem? ; intro i; rw [List.getElem?_set]
                split
                · rename_i e; subst e; simp [hlt, he]
                · rfl
              rw [this]; exact Nat.le_refl _
            · rw [List.set_eq_of_length_le (by omega)]; exact Nat.le_refl _
        omega
      split
      · rename_i hc
        have hcs := count_set_false out a.toNat hc
        have := hnx a.toNat
        exact refF_total len shut hnx k (ys ++ nx a.toNat) (out.set a.toNat true) (by simp only [List.length_append]; omega)
      · exact refF_total len shut hnx k ys out (by omega)
open Classical in
/-- The nearest place that all ways from a word to the end have; -1: there is none. -/
noncomputable def postS (nx : Nat → List Int) (len : Nat) (a : Int) : Int := if h : Way nx (-2) a (-1) ∧ ∃ d, Near nx len a d then h.2.choose else -1
theorem postS_near {len : Nat} {a d : Int} (hnx : ∀ i, ∀ x ∈ nx i, -1 ≤ x) (h : Way nx (-2) a (-1)) (hd : Near nx len a d) : postS nx len a = d := by
  unfold postS
  have h' : Way nx (-2) a (-1) ∧ ∃ d, Near nx len a d := ⟨h, d, hd⟩
  rw [dif_pos h']
  exact Near.only hnx h h'.2.choose_spec hd
theorem postS_no {len : Nat} {a : Int} (h : ¬ Way nx (-2) a (-1)) : postS nx len a = -1 := by
  unfold postS; rw [dif_neg (fun h' => h h'.1)]
theorem postS_none {len : Nat} {a : Int} (h : ∀ d, ¬ Near nx len a d) : postS nx len a = -1 := by
  unfold postS; rw [dif_neg (fun h' => h'.2.elim fun d hd => h d hd)]
theorem postS_alt (nx : Nat → List Int) (len : Nat) (a : Int) : postS nx len a = -1 ∨ (Way nx (-2) a (-1) ∧ Near nx len a (postS nx len a)) := by
  unfold postS
  split
  · rename_i h; exact .inr ⟨h.1, h.2.choose_spec⟩
  · exact .inl rfl
theorem filter_lt (len : Nat) (p q : Nat → Bool) (hpq : ∀ i, i < len → p i = true → q i = true) (i : Nat) (hi : i < len) (h1 : q i = true) (h2 : p i = false) :
    ((List.range len).filter p).length < ((List.range len).filter q).length := by
  induction len with
  | zero => omega
  | succ n ih =>
    simp only [List.range_succ, List.filter_append, List.length_append]
    have hle : ∀ m, (∀ i, i < m → p i = true → q i = true) → ((List.range m).filter p).length ≤ ((List.range m).filter q).length := fun m => by
      induction m with
      | zero => intro _; simp
      | succ m ihm =>
        intro hm
        simp only [List.range_succ, List.filter_append, List.length_append]
        have h3 := ihm fun i hi => hm i (by omega)
        have h4 := hm m (by omega)
        cases hp : p m
        · simp [hp]; omega
        · simp [hp, h4 hp]; omega
    rcases Nat.lt_or_ge i n with h | h
    · have h3 := ih (fun i hi => hpq i (by omega)) h
      have h4 := hpq n (by omega)
      cases hp : p n
      · simp [hp]; omega
      · simp [hp, h4 hp]; omega
    · obtain rfl : i = n := by omega
      have h3 := hle i fun j hj => hpq j (by omega)
      simp [h1, h2]; omega
/-- The sets of what lies behind, bit by bit. -/
def Bits (nx : Nat → List Int) (len : Nat) (all : Nat → Nat) : Prop := ∀ i n : Nat, i < len → n < len → Way nx (-2) i (-1) → ((all i).testBit n = true ↔ Pd nx n i)
/-- Who has the most behind it is the nearest. -/
theorem near_most {len : Nat} {all : Nat → Nat} {a d : Nat} (hnx : ∀ i, ∀ x ∈ nx i, -1 ≤ x) (ha : a < len) (hw : Way nx (-2) a (-1)) (hb : Bits nx len all) (hd : d < len) (hda : d ≠ a) (hpd : Pd nx d a)
    (hmax : ∀ m : Nat, m < len → m ≠ a → Pd nx m a → manyS (all m) len ≤ manyS (all d) len) : Near nx len a d := by
  refine ⟨by omega, by omega, by omega, hpd, fun m h0 h1 h2 h3 => ?_⟩
  obtain ⟨m, rfl⟩ : ∃ k : Nat, m = k := ⟨m.toNat, by omega⟩
  by_cases hmd : m = d
  · subst hmd; exact Pd.self _
  rcases Pd.chain (x := (m : Int)) (y := (d : Int)) (by omega) (by omega) hw h3 hpd with h | h
  · by_cases hmd' : Pd nx m d
    · exact hmd'
    · have hwd := Pd.ends hnx (by omega) hw hpd
      have hwm := Pd.ends hnx (by omega) hw h3
      have := filter_lt len (fun i => (all d).testBit i) (fun i => (all m).testBit i) (fun i hi hp => (hb m i (by omega) hi hwm).2 (((hb d i hd hi hwd).1 hp).trans h))
        m (by omega) ((hb m m (by omega) (by omega) hwm).2 (Pd.self _)) (by
          cases e : (all d).testBit m
          · rfl
          · exact absurd ((hb d m hd (by omega) hwd).1 e) hmd')
      have h5 := hmax m (by omega) (by omega) h3
      unfold manyS at h5
      omega
  · exact h
end Go.Proofs.Ytjocifamacpamaa

/- Which words have a way to the end; what lies on each such way: plain. Conditions: none. -/
namespace Go.Proofs.Ytjocifamacpamaa
set_option linter.unusedVariables false
variable {nx : Nat → List Int}
theorem fromF_total' (nx : Nat → List Int) (shut : Int) (c : Nat) (hnx : ∀ i, (nx i).length ≤ c) : ∀ (k : Nat) (todo : List Int) (out : List Bool), todo.length + (c + 1) * out.count false < k → ∃ R, fromF nx shut k todo out = some R ∧ R.length = out.length
  | 0, todo, out, h => by omega
  | k + 1, todo, out, h => by
    rcases List.eq_nil_or_concat todo with rfl | ⟨ys, a, htd⟩
    · exact ⟨out, by simp [fromF], rfl⟩
    · rw [List.concat_eq_append] at htd
      subst htd
      simp only [List.length_append, List.length_cons, List.length_nil] at h
      rw [fromF_at]
      split
      · rename_i hc
        have hcs := count_set_false out a.toNat hc.2.2
        have := hnx a.toNat
        have h2 : (c + 1) * (out.set a.toNat true).count false + (c + 1) = (c + 1) * out.count false := by rw [← hcs, Nat.mul_succ]
        obtain ⟨R, h1, h2⟩ := fromF_total' nx shut c hnx k (ys ++ nx a.toNat) (out.set a.toNat true) (by simp only [List.length_append]; omega)
        exact ⟨R, h1, by simpa using h2⟩
      · exact fromF_total' nx shut c hnx k ys out (by omega)
/-- From which words one comes to a place (0: the end). -/
def preL (nx : Nat → List Int) (len j : Nat) : List Int := (List.range len).flatMap fun i => ((nx i).filter fun n => n + 1 == (j : Int)).map fun _ => (i : Int)
theorem mem_pre {len j : Nat} {a : Int} : a ∈ preL nx len j ↔ ∃ i : Nat, i < len ∧ a = i ∧ (j : Int) - 1 ∈ nx i := by
  unfold preL
  simp only [List.mem_flatMap, List.mem_range, List.mem_map, List.mem_filter, beq_iff_eq]
  constructor
  · rintro ⟨i, hi, n, ⟨hn, hj⟩, rfl⟩
    exact ⟨i, hi, rfl, by rw [← hj]; simpa using hn⟩
  · rintro ⟨i, hi, rfl, hn⟩
    exact ⟨i, hi, _, ⟨hn, by omega⟩, rfl⟩
theorem preL_len (len j : Nat) (h : ∀ i, (nx i).length ≤ 2) : (preL nx len j).length ≤ 2 * len := by
  unfold preL
  induction len with
  | zero => simp
  | succ n ih =>
    rw [List.range_succ, List.flatMap_append, List.length_append]
    simp only [List.flatMap_cons, List.flatMap_nil, List.append_nil, List.length_map]
    have := List.length_filter_le (fun n => n + 1 == (j : Int)) (nx n)
    have := h n
    omega
theorem pre_way {len : Nat} (hnx : ∀ i, ∀ x ∈ nx i, -1 ≤ x ∧ x < len) (i : Nat) (hi : i < len) : (∃ a ∈ preL nx len 0, Way (fun i => preL nx len (i + 1)) (-2) a i) ↔ Way nx (-2) i (-1) := by
  constructor
  · rintro ⟨a, ha, hw⟩
    obtain ⟨k, hk, rfl, hk2⟩ := mem_pre.1 ha
    have h0 : Way nx (-2) (k : Int) (-1) := .step (by omega) (by omega) (by simpa using hk2) (.here (by omega))
    generalize (k : Int) = a at hw h0
    generalize hc : (i : Int) = c at hw ⊢
    clear hc ha
    induction hw with
    | here _ => exact h0
    | @step a b c h1 h2 h3 h4 ih =>
      obtain ⟨m, hm, rfl, hm2⟩ := mem_pre.1 h3
      refine ih (.step (by omega) (by omega) (b := a) ?_ h0)
      have : ((a.toNat + 1 : Nat) : Int) - 1 = a := by omega
      rw [this] at hm2
      simpa using hm2
  · intro h
    have : ∀ (a c : Int), Way nx (-2) a c → c = -1 → 0 ≤ a → a < len → ∃ b ∈ preL nx len 0, Way (fun i => preL nx len (i + 1)) (-2) b a := by
      intro a c h
      induction h with
      | here h => intro h1 h2; omega
      | @step a b c h1 h2 h3 h4 ih =>
        intro hc h0 hl
        by_cases hb : b = -1
        · subst hb
          exact ⟨a, mem_pre.2 ⟨a.toNat, by omega, by omega, h3⟩, .here h1⟩
        · have hbb := hnx _ b h3
          obtain ⟨e, he, hw⟩ := ih hc (by omega) hbb.2
          refine ⟨e, he, hw.trans (.step (by omega) (by omega) (b := a) (mem_pre.2 ⟨a.toNat, by omega, by omega, ?_⟩) (.here h1))⟩
          have : ((b.toNat + 1 : Nat) : Int) - 1 = b := by omega
          rw [this]; exact h3
    exact this i (-1) h rfl (by omega) (by omega)
/-- What ends answers. -/
theorem ends_way {len : Nat} (hnx : ∀ i, ∀ x ∈ nx i, -1 ≤ x ∧ x < len) {k : Nat} {R : List Bool} (h : fromF (fun i => preL nx len (i + 1)) (-1) k (preL nx len 0) (List.replicate len false) = some R) :
    R.length = len ∧ ∀ i, i < len → (R.getD i false = true ↔ Way nx (-2) i (-1)) := by
  have hpre : ∀ j, ∀ x ∈ preL nx len j, -1 ≤ x ∧ x < len := fun j x hx => by
    obtain ⟨m, hm, rfl, _⟩ := mem_pre.1 hx
    omega
  obtain ⟨b', hb⟩ := lock (fun i => preL nx len (i + 1)) len (fun i => hpre (i + 1)) k (preL nx len 0) (List.replicate len false) R false (by simp) (hpre 0) h
  rw [← List.replicate_succ'] at hb
  obtain ⟨h1, h2⟩ := refF_way (fun i => hpre (i + 1)) (hpre 0) hb
  have hl : R.length = len := by simpa using h1
  refine ⟨hl, fun i hi => ?_⟩
  rw [← pre_way hnx i hi, ← h2 i (by omega) (by omega)]
  unfold mkd
  rw [if_neg (by omega)]
  simp [List.getD, List.getElem?_append_left, hl, hi]
def onesS : Nat := 18446744073709551615
theorem ones_bit (i : Nat) (hi : i < 64) : onesS.testBit i = true := by
  have : ∀ k : Fin 64, onesS.testBit k.val = true := by decide +kernel
  exact this ⟨i, hi⟩
/-- What some sets have in common. -/
def meetS (l : List Int) (out : List (Option Nat)) (s : Nat) : Nat := l.foldl (fun s n => match out.getD n.toNat none with
  | some t => s &&& t
  | none => s) s
def commonS (l : List Int) (out : List (Option Nat)) : Nat := if (-1 : Int) ∈ l then 0 else meetS l out onesS
theorem meet_bit (out : List (Option Nat)) (n : Nat) : ∀ (l : List Int) (s : Nat), (meetS l out s).testBit n = true ↔ s.testBit n = true ∧ ∀ b ∈ l, ∀ t, out.getD b.toNat none = some t → t.testBit n = true := by
  intro l
  induction l with
  | nil => intro s; simp [meetS]
  | cons b l ih =>
    intro s
    have e : meetS (b :: l) out s = meetS l out (match out.getD b.toNat none with
      | some t => s &&& t
      | none => s) := rfl
    rw [e, ih]
    cases h : out.getD b.toNat none with
    | none =>
      simp only [List.mem_cons, forall_eq_or_imp, h]
      simp
    | some t =>
      simp only [List.mem_cons, forall_eq_or_imp, h, Nat.testBit_and, Bool.and_eq_true, Option.some.injEq, forall_eq']
      exact and_assoc
theorem common_bit (out : List (Option Nat)) (n : Nat) (hn : n < 64) (l : List Int) : (commonS l out).testBit n = true ↔ (-1 : Int) ∉ l ∧ ∀ b ∈ l, ∀ t, out.getD b.toNat none = some t → t.testBit n = true := by
  unfold commonS
  split
  · rename_i h; simp [h]
  · rename_i h; rw [meet_bit]; simp [h, ones_bit n hn]
theorem common_lt (l : List Int) (out : List (Option Nat)) : commonS l out < 18446744073709551616 := by
  unfold commonS
  split
  · decide
  · have : ∀ (l : List Int) (s : Nat), s < 18446744073709551616 → meetS l out s < 18446744073709551616 := by
      intro l
      induction l with
      | nil => intro s h; exact h
      | cons b l ih =>
        intro s h
        have e : meetS (b :: l) out s = meetS l out (match out.getD b.toNat none with
          | some t => s &&& t
          | none => s) := rfl
        rw [e]
        refine ih _ ?_
        split
        · exact Nat.lt_of_le_of_lt Nat.and_le_left h
        · exact h
    exact this l _ (by decide)
def newS (nx : Nat → List Int) (out : List (Option Nat)) (i : Nat) : Nat := commonS (nx i) out ||| 2 ^ i
theorem newS_lt (nx : Nat → List Int) (out : List (Option Nat)) (i : Nat) (hi : i < 64) : newS nx out i < 18446744073709551616 :=
  Nat.or_lt_two_pow (n := 64) (common_lt _ _) (Nat.lt_of_lt_of_le (Nat.pow_lt_pow_right (by decide) hi) (by decide))
theorem new_bit (out : List (Option Nat)) (i n : Nat) (hn : n < 64) : (newS nx out i).testBit n = true ↔ n = i ∨ ((-1 : Int) ∉ nx i ∧ ∀ b ∈ nx i, ∀ t, out.getD b.toNat none = some t → t.testBit n = true) := by
  unfold newS
  rw [Nat.testBit_or, Bool.or_eq_true, common_bit out n hn, Nat.testBit_two_pow]
  constructor
  · rintro (h | h)
    · exact .inr h
    · exact .inl (by simpa using Eq.symm (of_decide_eq_true h))
  · rintro (h | h)
    · exact .inr (by subst h; simp)
    · exact .inl h
/-- A step of the settling: is it turned? -/
def stepB (nx : Nat → List Int) (out : List (Option Nat)) (i : Nat) : List (Option Nat) × Bool := match out.getD i none with
  | none => (out, false)
  | some s => if newS nx out i = s then (out, false) else (out.set i (some (newS nx out i)), true)
def sweepB (nx : Nat → List Int) : Nat → List (Option Nat) → Bool → List (Option Nat) × Bool
  | 0, out, b => (out, b)
  | i + 1, out, b => sweepB nx i (stepB nx out i).1 (b || (stepB nx out i).2)
def settleB (nx : Nat → List Int) (len : Nat) : Nat → List (Option Nat) → Option (List (Option Nat))
  | 0, _ => none
  | k + 1, out => if (sweepB nx len out false).2 = true then settleB nx len k (sweepB nx len out false).1 else some (sweepB nx len out false).1
/-- What holds all along: who has a way to the end has a set, and no other; it holds what lies on each way; going on it only falls. -/
structure GoodB (nx : Nat → List Int) (len : Nat) (out : List (Option Nat)) : Prop where
  size : out.length = len
  has : ∀ i, i < len → ((∃ s, out.getD i none = some s) ↔ Way nx (-2) i (-1))
  lt : ∀ i s, out.getD i none = some s → s < 18446744073709551616
  up : ∀ i s, out.getD i none = some s → ∀ n : Nat, n < len → Pd nx n i → s.testBit n = true
  down : ∀ i s, out.getD i none = some s → ∀ n : Nat, (newS nx out i).testBit n = true → s.testBit n = true
def sumB (out : List (Option Nat)) : Nat := (out.map fun o => o.getD 0).sum
theorem sum_set (out : List (Option Nat)) (i s t : Nat) (h : out.getD i none = some s) : sumB (out.set i (some t)) + s = sumB out + t := by
  induction out generalizing i with
  | nil => simp at h
  | cons o l ih =>
    cases i with
    | zero => simp at h; subst h; simp [sumB]; omega
    | succ i =>
      have := ih i (by simpa using h)
      simp [sumB] at this ⊢; omega
theorem sub_le {t s : Nat} (h : ∀ n : Nat, t.testBit n = true → s.testBit n = true) : t ≤ s := by
  have : t &&& s = t := by
    apply Nat.eq_of_testBit_eq
    intro n
    rw [Nat.testBit_and]
    cases e : t.testBit n
    · rfl
    · simp [h n e]
  rw [← this]; exact Nat.and_le_right
theorem GoodB.step {len : Nat} {out : List (Option Nat)} (hlen : len ≤ 64) (hnx : ∀ i, ∀ x ∈ nx i, -1 ≤ x ∧ x < len) (h : GoodB nx len out) (i : Nat) (hi : i < len) :
    GoodB nx len (stepB nx out i).1 ∧ ((stepB nx out i).2 = true → sumB (stepB nx out i).1 < sumB out) ∧ ((stepB nx out i).2 = false → (stepB nx out i).1 = out ∧ ∀ s, out.getD i none = some s → newS nx out i = s) := by
  unfold stepB
  cases e : out.getD i none with
  | none => exact ⟨h, fun h => by simp at h, fun _ => ⟨rfl, fun s hs => by cases hs⟩⟩
  | some s =>
    simp only
    by_cases hs : newS nx out i = s
    · rw [if_pos hs]
      exact ⟨h, fun h => by simp at h, fun _ => ⟨rfl, fun s' hs' => by cases hs'; exact hs⟩⟩
    · rw [if_neg hs]
      have hsub := h.down i s e
      have hlt : newS nx out i < s := Nat.lt_of_le_of_ne (sub_le hsub) hs
      have hget : ∀ j, (out.set i (some (newS nx out i))).getD j none = if j = i then some (newS nx out i) else out.getD j none := fun j => by
        simp only [List.getD, List.getElem?_set]
        by_cases hji : j = i
        · subst hji; simp [h.size, hi]
        · rw [if_neg (fun h => hji h.symm), if_neg hji]
      have hmono : ∀ j (n : Nat), n < 64 → (newS nx (out.set i (some (newS nx out i))) j).testBit n = true → (newS nx out j).testBit n = true := fun j n hn hb => by
        rw [new_bit _ _ _ hn] at hb ⊢
        rcases hb with hb | ⟨h1, h2⟩
        · exact .inl hb
        · refine .inr ⟨h1, fun b hb t ht => ?_⟩
          by_cases hbi : b.toNat = i
          · rw [hbi, e] at ht
            cases ht
            exact hsub n (h2 b hb _ (by rw [hget, if_pos hbi]))
          · exact h2 b hb t (by rw [hget, if_neg hbi]; exact ht)
      refine ⟨⟨by simpa using h.size, fun j hj => ?_, fun j t ht => ?_, fun j t ht n hn hp => ?_, fun j t ht n hb => ?_⟩, fun _ => ?_, fun h => by simp at h⟩
      · rw [hget]
        split
        · rename_i hji
          subst hji
          exact ⟨fun _ => (h.has j hj).1 ⟨s, e⟩, fun _ => ⟨_, rfl⟩⟩
        · exact h.has j hj
      · rw [hget] at ht
        split at ht
        · cases ht; exact newS_lt _ _ _ (by omega)
        · exact h.lt j t ht
      · rw [hget] at ht
        split at ht
        · rename_i hji
          subst hji
          cases ht
          rw [new_bit _ _ _ (by omega)]
          by_cases hnj : n = j
          · exact .inl hnj
          · refine .inr ⟨fun hm => hp (.step (by omega) (by omega) (by simpa using hm) (.here (by omega))), fun b hb t ht => ?_⟩
            have hbb := hnx _ b hb
            have hb1 : b ≠ -1 := fun hb1 => by
              subst hb1
              exact hp (.step (by omega) (by omega) (by simpa using hb) (.here (by omega)))
            refine h.up b.toNat t ht n hn ?_
            rw [show ((b.toNat : Nat) : Int) = b by omega]
            exact hp.next (by omega) (by omega) (by simpa using hb)
        · exact h.up j t ht n hn hp
      · by_cases hn : n < 64
        · have hb2 := hmono j n hn hb
          rw [hget] at ht
          split at ht
          · rename_i hji; subst hji; cases ht; exact hb2
          · exact h.down j t ht n hb2
        · have hlt' : newS nx (out.set i (some (newS nx out i))) j < 2 ^ n := by
            by_cases hj : j < len
            · exact Nat.lt_of_lt_of_le (newS_lt _ _ _ (by omega)) (by rw [show 18446744073709551616 = 2 ^ 64 by decide]; exact Nat.pow_le_pow_right (by decide) (by omega))
            · rw [hget, if_neg (by omega)] at ht
              simp [List.getD, h.size, hj] at ht
          rw [Nat.testBit_lt_two_pow hlt'] at hb
          cases hb
      · have := sum_set out i s (newS nx out i) e
        show sumB (out.set i (some (newS nx out i))) < sumB out
        omega
theorem GoodB.sweep {len : Nat} (hlen : len ≤ 64) (hnx : ∀ i, ∀ x ∈ nx i, -1 ≤ x ∧ x < len) : ∀ (i : Nat) (out : List (Option Nat)) (b : Bool), i ≤ len → GoodB nx len out →
    GoodB nx len (sweepB nx i out b).1 ∧ sumB (sweepB nx i out b).1 ≤ sumB out ∧ ((sweepB nx i out b).2 = true → b = true ∨ sumB (sweepB nx i out b).1 < sumB out) ∧
      ((sweepB nx i out b).2 = false → b = false ∧ (sweepB nx i out b).1 = out ∧ ∀ j, j < i → ∀ s, out.getD j none = some s → newS nx out j = s)
  | 0, out, b, _, h => ⟨h, Nat.le_refl _, fun h => .inl h, fun h => ⟨h, rfl, fun j hj => by omega⟩⟩
  | i + 1, out, b, hi, h => by
    obtain ⟨h1, h2, h3⟩ := h.step hlen hnx i (by omega)
    obtain ⟨k1, k2, k3, k4⟩ := GoodB.sweep hlen hnx i (stepB nx out i).1 (b || (stepB nx out i).2) (by omega) h1
    have hle : sumB (stepB nx out i).1 ≤ sumB out := by
      cases e : (stepB nx out i).2
      · rw [(h3 e).1]; exact Nat.le_refl _
      · exact Nat.le_of_lt (h2 e)
    refine ⟨k1, Nat.le_trans k2 hle, fun hb => ?_, fun hb => ?_⟩
    · rcases k3 hb with h | h
      · rw [Bool.or_eq_true] at h
        rcases h with h | h
        · exact .inl h
        · exact .inr (Nat.lt_of_le_of_lt k2 (h2 h))
      · exact .inr (Nat.lt_of_lt_of_le h hle)
    · obtain ⟨q1, q2, q3⟩ := k4 hb
      rw [Bool.or_eq_false_iff] at q1
      obtain ⟨r1, r2⟩ := h3 q1.2
      refine ⟨q1.1, ?_, fun j hj s hs => ?_⟩
      · show (sweepB nx i (stepB nx out i).1 (b || (stepB nx out i).2)).1 = out
        rw [q2, r1]
      · by_cases hji : j = i
        · subst hji; exact r2 s hs
        · rw [r1] at q3; exact q3 j (by omega) s hs
theorem GoodB.settle {len : Nat} (hlen : len ≤ 64) (hnx : ∀ i, ∀ x ∈ nx i, -1 ≤ x ∧ x < len) : ∀ (k : Nat) (out : List (Option Nat)), sumB out < k → GoodB nx len out →
    ∃ R, settleB nx len k out = some R ∧ GoodB nx len R ∧ ∀ j, j < len → ∀ s, R.getD j none = some s → newS nx R j = s
  | 0, out, h, _ => by omega
  | k + 1, out, hk, h => by
    obtain ⟨k1, k2, k3, k4⟩ := GoodB.sweep hlen hnx len out false (Nat.le_refl _) h
    unfold settleB
    cases e : (sweepB nx len out false).2
    · rw [if_neg (by simp)]
      obtain ⟨_, q2, q3⟩ := k4 e
      exact ⟨_, rfl, k1, by rw [q2]; exact q3⟩
    · rw [if_pos rfl]
      have : sumB (sweepB nx len out false).1 < sumB out := (k3 e).elim (fun h => by cases h) id
      exact GoodB.settle hlen hnx k _ (by omega) k1
/-- Where it is settled, a set holds what lies on each way, and no other. -/
theorem GoodB.bits {len : Nat} {R : List (Option Nat)} (hlen : len ≤ 64) (hnx : ∀ i, ∀ x ∈ nx i, -1 ≤ x ∧ x < len) (h : GoodB nx len R) (hf : ∀ j, j < len → ∀ s, R.getD j none = some s → newS nx R j = s) :
    Bits nx len fun i => (R.getD i none).getD 0 := by
  intro i n hi hn hw
  obtain ⟨s, hs⟩ := (h.has i hi).2 hw
  simp only [hs, Option.getD_some]
  refine ⟨fun hb hw' => ?_, fun hp => h.up i s hs n hn hp⟩
  have : ∀ (a c : Int), Way nx n a c → c = -1 → ∀ (i s : Nat), a = i → i < len → R.getD i none = some s → s.testBit n = true → False := by
    intro a c hw
    induction hw with
    | here _ => intro h1 i s h2; omega
    | @step a b c h1 h2 h3 h4 ih =>
      intro hc i s hai hi hs hb
      subst hai
      have hfi := hf i hi s hs
      rw [← hfi, new_bit _ _ _ (by omega)] at hb
      rcases hb with hb | ⟨hb1, hb2⟩
      · omega
      · have hbb := hnx _ b h3
        have hbn : b ≠ -1 := fun e => by subst e; exact hb1 (by simpa using h3)
        have hwb : Way nx (-2) (b.toNat : Nat) (-1) := by
          rw [show ((b.toNat : Nat) : Int) = b by omega]
          subst hc
          exact h4.wide (fun i x hx => (hnx i x hx).1) (by omega)
        obtain ⟨t, ht⟩ := (h.has b.toNat (by omega)).2 hwb
        exact ih hc b.toNat t (by omega) (by omega) ht (hb2 b (by simpa using h3) t ht)
  exact this i (-1) hw' rfl i s rfl hi hs hb
/-- Sets to begin with: all ones. -/
def startB (R : List Bool) : List (Option Nat) := R.map fun b => if b = true then some onesS else none
theorem startB_good {len : Nat} {R : List Bool} (hlen : len ≤ 64) (hR : R.length = len) (hw : ∀ i, i < len → (R.getD i false = true ↔ Way nx (-2) i (-1))) : GoodB nx len (startB R) := by
  have hget : ∀ i s, (startB R).getD i none = some s → i < len ∧ R.getD i false = true ∧ s = onesS := fun i s h => by
    unfold startB at h
    simp only [List.getD, List.getElem?_map] at h
    by_cases hi : i < R.length
    · rw [List.getElem?_eq_getElem hi] at h
      simp only [Option.map_some, Option.getD_some] at h
      split at h
      · rename_i e; cases h; exact ⟨by omega, by simp [List.getD, hi, e], rfl⟩
      · cases h
    · rw [List.getElem?_eq_none (by omega)] at h; simp at h
  refine ⟨by simp [startB, hR], fun i hi => ?_, fun i s hs => ?_, fun i s hs n hn _ => ?_, fun i s hs n hb => ?_⟩
  · rw [← hw i hi]
    constructor
    · rintro ⟨s, hs⟩; exact (hget i s hs).2.1
    · intro h
      refine ⟨onesS, ?_⟩
      have hi' : i < R.length := by omega
      simp only [List.getD, List.getElem?_eq_getElem hi', Option.getD_some] at h
      simp [startB, List.getD, hi', h]
  · obtain ⟨_, _, rfl⟩ := hget i s hs; decide
  · obtain ⟨_, _, rfl⟩ := hget i s hs; exact ones_bit n (by omega)
  · obtain ⟨hi, _, rfl⟩ := hget i s hs
    by_cases hn : n < 64
    · exact ones_bit n hn
    · have hlt' : newS nx (startB R) i < 2 ^ n := Nat.lt_of_lt_of_le (newS_lt _ _ _ (by omega)) (by rw [show 18446744073709551616 = 2 ^ 64 by decide]; exact Nat.pow_le_pow_right (by decide) (by omega))
      rw [Nat.testBit_lt_two_pow hlt'] at hb
      cases hb
end Go.Proofs.Ytjocifamacpamaa

/- The nearest place, by the most behind it: plain. Conditions: none. -/
namespace Go.Proofs.Ytjocifamacpamaa
set_option linter.unusedVariables false
variable {nx : Nat → List Int}
/-- The best of the first k. -/
def BestTo (P : Nat → Prop) (c : Nat → Nat) (k : Nat) (b m : Int) : Prop := (b = -1 ∧ m = -1 ∧ ∀ n, n < k → ¬ P n) ∨ (∃ d : Nat, d < k ∧ P d ∧ b = d ∧ m = c d ∧ ∀ n, n < k → P n → c n ≤ c d)
theorem BestTo.zero (P : Nat → Prop) (c : Nat → Nat) : BestTo P c 0 (-1) (-1) := .inl ⟨rfl, rfl, fun n h => by omega⟩
theorem BestTo.take {P : Nat → Prop} {c : Nat → Nat} {k : Nat} {b m : Int} (h : BestTo P c k b m) (hp : P k) (hc : m < c k) : BestTo P c (k + 1) k (c k) := by
  refine .inr ⟨k, by omega, hp, rfl, rfl, fun n hn hpn => ?_⟩
  rcases h with ⟨_, _, h⟩ | ⟨d, hd, _, _, hm, h⟩
  · by_cases e : n = k
    · subst e; exact Nat.le_refl _
    · exact absurd hpn (h n (by omega))
  · by_cases e : n = k
    · subst e; exact Nat.le_refl _
    · have := h n (by omega) hpn
      omega
theorem BestTo.keep {P : Nat → Prop} {c : Nat → Nat} {k : Nat} {b m : Int} (h : BestTo P c k b m) (hp : P k → (c k : Int) ≤ m) : BestTo P c (k + 1) b m := by
  rcases h with ⟨hb, hm, h⟩ | ⟨d, hd, hpd, hb, hm, h⟩
  · refine .inl ⟨hb, hm, fun n hn hpn => ?_⟩
    by_cases e : n = k
    · subst e; have := hp hpn; omega
    · exact h n (by omega) hpn
  · refine .inr ⟨d, by omega, hpd, hb, hm, fun n hn hpn => ?_⟩
    by_cases e : n = k
    · subst e; have := hp hpn; omega
    · exact h n (by omega) hpn
/-- What is settled. -/
structure Done (nx : Nat → List Int) (len : Nat) (F : List (Option Nat)) : Prop where
  nxs : ∀ i, ∀ x ∈ nx i, -1 ≤ x ∧ x < len
  few : len ≤ 64
  good : GoodB nx len F
  fix : ∀ j, j < len → ∀ s, F.getD j none = some s → newS nx F j = s
theorem Done.on {len : Nat} {F : List (Option Nat)} (h : Done nx len F) {a s : Nat} (ha : a < len) (hs : F.getD a none = some s) (n : Nat) (hn : n < len) (hna : n ≠ a) : (commonS (nx a) F).testBit n = true ↔ Pd nx n a := by
  have hw := (h.good.has a ha).1 ⟨s, hs⟩
  have hb := h.good.bits h.few h.nxs h.fix a n ha hn hw
  simp only [hs, Option.getD_some] at hb
  rw [← h.fix a ha s hs] at hb
  unfold newS at hb
  rw [Nat.testBit_or, Nat.testBit_two_pow, decide_eq_false (fun e => hna e.symm), Bool.or_false] at hb
  exact hb
theorem Done.ex {len : Nat} {F : List (Option Nat)} (h : Done nx len F) {a n : Nat} (ha : a < len) (hn : n < len) (hw : Way nx (-2) a (-1)) (hp : Pd nx n a) : ∃ s, F.getD n none = some s :=
  (h.good.has n hn).2 (Pd.ends (fun i x hx => (h.nxs i x hx).1) (by omega) hw hp)
theorem Done.best {len : Nat} {F : List (Option Nat)} (h : Done nx len F) {a s : Nat} (ha : a < len) (hs : F.getD a none = some s) {b m : Int}
    (hb : BestTo (fun n => n ≠ a ∧ (commonS (nx a) F).testBit n = true) (fun n => manyS ((F.getD n none).getD 0) len) len b m) : postS nx len a = b := by
  have hnx : ∀ i, ∀ x ∈ nx i, -1 ≤ x := fun i x hx => (h.nxs i x hx).1
  have hw := (h.good.has a ha).1 ⟨s, hs⟩
  rcases hb with ⟨rfl, _, hno⟩ | ⟨d, hd, ⟨hda, hdb⟩, rfl, _, hmax⟩
  · refine postS_none fun d hd => ?_
    have hlo := hd.lo
    have hhi := hd.hi
    have hne := hd.ne
    have h1 : d.toNat ≠ a := by omega
    have h2 : d.toNat < len := by omega
    refine hno d.toNat h2 ⟨h1, ?_⟩
    rw [h.on ha hs _ h2 h1, show ((d.toNat : Nat) : Int) = d by omega]
    exact hd.pd
  · refine postS_near hnx hw (near_most hnx ha hw (h.good.bits h.few h.nxs h.fix) hd hda ((h.on ha hs d hd hda).1 hdb) fun n hn hna hp => ?_)
    exact hmax n hn ⟨hna, (h.on ha hs n hn hna).2 hp⟩
theorem Done.no {len : Nat} {F : List (Option Nat)} (h : Done nx len F) {a : Nat} (ha : a < len) (hs : F.getD a none = none) : postS nx len a = -1 :=
  postS_no fun hw => by
    obtain ⟨s, h1⟩ := (h.good.has a ha).2 hw
    rw [hs] at h1; cases h1
/-- There is an end to all of it. -/
theorem done_any {len : Nat} (nx : Nat → List Int) (hlen : len ≤ 64) (hnx : ∀ i, ∀ x ∈ nx i, -1 ≤ x ∧ x < len) (hn2 : ∀ i, (nx i).length ≤ 2) :
    ∃ R K F, R.length = len ∧ fromF (fun i => preL nx len (i + 1)) (-1) 10000 (preL nx len 0) (List.replicate len false) = some R ∧ settleB nx len K (startB R) = some F ∧ Done nx len F := by
  have hpl : ∀ i, (preL nx len (i + 1)).length ≤ 2 * 64 := fun i => Nat.le_trans (preL_len len (i + 1) hn2) (by omega)
  have hp0 := preL_len len 0 hn2
  obtain ⟨R, hR, hRl⟩ := fromF_total' (fun i => preL nx len (i + 1)) (-1) (2 * 64) hpl 10000 (preL nx len 0) (List.replicate len false) (by simp; omega)
  have hRl' : R.length = len := by simpa using hRl
  obtain ⟨_, hw⟩ := ends_way hnx hR
  obtain ⟨F, h1, h2, h3⟩ := GoodB.settle hlen hnx (sumB (startB R) + 1) (startB R) (by omega) (startB_good hlen hRl' hw)
  exact ⟨R, _, F, hRl', hR, h1, hnx, hlen, h2, h3⟩
end Go.Proofs.Ytjocifamacpamaa
