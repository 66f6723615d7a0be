/- Nodes as brackets within brackets, in plain words; two ways to stop at a hundred thousand bytes. Conditions: none. -/
import Derived.Lib.ItoaLen
import Derived.Test.YtjchnliaglecoaaGreatDoorNodes
set_option linter.unusedVariables false
set_option linter.unusedSimpArgs false
namespace Go.Proofs.YtjchnliaglecoaaGreatDoor
open Go Go.RowKit Go.Nodes
set_option linter.unusedVariables false
set_option linter.unusedSimpArgs false
def itoaT (n : Int) : ByteArray := ⟨(Lib.itoa n).toArray⟩
def hexD (n : Nat) : UInt8 := [48, 49, 50, 51, 52, 53, 54, 55, 56, 57, 97, 98, 99, 100, 101, 102].getD n 48
def qc (c : UInt8) : List UInt8 := if c = 10 then [92, 110] else if c = 34 ∨ c = 92 then [92, c] else if c < 32 ∨ 126 < c then [92, 120, hexD (c.toNat / 16), hexD (c.toNat % 16)] else [c]
def quoteT (s : ByteArray) : ByteArray := ⟨(34 :: (s.data.toList.flatMap qc ++ [34])).toArray⟩
theorem qc_len (c : UInt8) : (qc c).length ≤ 4 := by
  unfold qc; repeat (first | split | simp)
theorem flat_qc_len : ∀ l : List UInt8, (l.flatMap qc).length ≤ 4 * l.length
  | [] => by simp
  | c :: l => by
    have := flat_qc_len l
    have h := qc_len c
    simp only [List.flatMap_cons, List.length_append, List.length_cons]; omega
theorem quoteT_size (s : ByteArray) : (quoteT s).size ≤ 4 * s.size + 2 := by
  have := flat_qc_len s.data.toList
  unfold quoteT
  show (34 :: (s.data.toList.flatMap qc ++ [34])).toArray.size ≤ _
  simp only [List.size_toArray, List.length_cons, List.length_append, List.length_nil]
  have h2 : s.data.toList.length = s.size := by simp
  omega

def headT (x : Nd) (s : ByteArray) : ByteArray :=
  (if x.text.size = 0 then s ++ (⟨#[40]⟩ ++ itoaT x.kind) else s ++ (⟨#[40]⟩ ++ itoaT x.kind) ++ (⟨#[32]⟩ ++ quoteT x.text)) ++ (⟨#[32, 64]⟩ ++ itoaT x.place)
def stepT (low : Nat → ByteArray → ByteArray) (n : Nat) (k : Int) (s : ByteArray) : ByteArray :=
  if 0 ≤ k ∧ k < (n : Int) then low k.toNat (s ++ ⟨#[32]⟩) else s ++ ⟨#[32]⟩ ++ ⟨#[63]⟩
def loopR (step : Int → ByteArray → ByteArray) : List Int → ByteArray → ByteArray
  | [], s => s ++ ⟨#[41]⟩
  | k :: ks, s => if 100000 < (step k s).size then step k s else loopR step ks (step k s)
def loopP (step : Int → ByteArray → ByteArray) : List Int → ByteArray → ByteArray
  | [], s => s ++ ⟨#[41]⟩
  | k :: ks, s => if 100000 < s.size then s else loopP step ks (step k s)
def lispR (ns : List Nd) : Nat → Nat → ByteArray → ByteArray
  | 0, _, s => s
  | f + 1, n, s => if 100000 < s.size then s else match ns[n]? with
    | none => s
    | some x => loopR (stepT (lispR ns f) n) x.kids (headT x s)
def lispP (ns : List Nd) : Nat → Nat → ByteArray → ByteArray
  | 0, _, s => s
  | f + 1, n, s => if 100000 < s.size then s else match ns[n]? with
    | none => s
    | some x => loopP (stepT (lispP ns f) n) x.kids (headT x s)
/-- One text begins with the other. -/
def Ext (s t : ByteArray) : Prop := ∃ u, t = s ++ u
theorem Ext.refl (s : ByteArray) : Ext s s := ⟨⟨#[]⟩, by apply ByteArray.ext; simp⟩
theorem Ext.app {s t : ByteArray} (h : Ext s t) (u : ByteArray) : Ext s (t ++ u) := by
  obtain ⟨v, rfl⟩ := h
  exact ⟨v ++ u, by rw [ByteArray.append_assoc]⟩
theorem Ext.trans {a b c : ByteArray} (h : Ext a b) (k : Ext b c) : Ext a c := by
  obtain ⟨v, rfl⟩ := k
  exact h.app v
theorem Ext.size {s t : ByteArray} (h : Ext s t) : s.size ≤ t.size := by
  obtain ⟨u, rfl⟩ := h
  rw [ByteArray.size_append]; omega
theorem ext_head (x : Nd) (s : ByteArray) : Ext s (headT x s) := by
  unfold headT
  split
  · exact ((Ext.refl s).app _).app _
  · exact (((Ext.refl s).app _).app _).app _
theorem ext_step {low : Nat → ByteArray → ByteArray} (h : ∀ n s, Ext s (low n s)) (n : Nat) (k : Int) (s : ByteArray) : Ext s (stepT low n k s) := by
  unfold stepT
  split
  · exact ((Ext.refl s).app _).trans (h _ _)
  · exact ((Ext.refl s).app _).app _
theorem ext_loopR {step : Int → ByteArray → ByteArray} (h : ∀ k s, Ext s (step k s)) : ∀ ks s, Ext s (loopR step ks s)
  | [], s => (Ext.refl s).app _
  | k :: ks, s => by
    unfold loopR
    split
    · exact h k s
    · exact (h k s).trans (ext_loopR h ks _)
theorem ext_loopP {step : Int → ByteArray → ByteArray} (h : ∀ k s, Ext s (step k s)) : ∀ ks s, Ext s (loopP step ks s)
  | [], s => (Ext.refl s).app _
  | k :: ks, s => by
    unfold loopP
    split
    · exact Ext.refl s
    · exact (h k s).trans (ext_loopP h ks _)
theorem ext_lispR (ns : List Nd) : ∀ f n s, Ext s (lispR ns f n s)
  | 0, _, s => Ext.refl s
  | f + 1, n, s => by
    unfold lispR
    split
    · exact Ext.refl s
    · split
      · exact Ext.refl s
      · exact (ext_head _ s).trans (ext_loopR (ext_step (ext_lispR ns f) n) _ _)
theorem ext_lispP (ns : List Nd) : ∀ f n s, Ext s (lispP ns f n s)
  | 0, _, s => Ext.refl s
  | f + 1, n, s => by
    unfold lispP
    split
    · exact Ext.refl s
    · split
      · exact Ext.refl s
      · exact (ext_head _ s).trans (ext_loopP (ext_step (ext_lispP ns f) n) _ _)
/-- Alike, or both too long and alike so far. -/
def Rel (a b : ByteArray) : Prop := a = b ∨ (100000 < a.size ∧ 100000 < b.size ∧ a.data.toList.take 100000 = b.data.toList.take 100000)
theorem take_ext {s t : ByteArray} (h : Ext s t) (hs : 100000 < s.size) : t.data.toList.take 100000 = s.data.toList.take 100000 := by
  obtain ⟨u, rfl⟩ := h
  have h2 : s.data.toList.length = s.size := by simp
  rw [ByteArray.data_append, Array.toList_append, List.take_append_of_le_length (by omega)]
theorem rel_ext {s a b : ByteArray} (ha : Ext s a) (hb : Ext s b) (hs : 100000 < s.size) : Rel a b :=
  .inr ⟨Nat.lt_of_lt_of_le hs ha.size, Nat.lt_of_lt_of_le hs hb.size, by rw [take_ext ha hs, take_ext hb hs]⟩
theorem Rel.more {a b a' : ByteArray} (h : Rel a b) (hs : 100000 < a.size) (hsb : 100000 < b.size) (he : Ext a a') : Rel a' b := by
  rcases h with rfl | ⟨h1, h2, h3⟩
  · exact rel_ext he (Ext.refl _) hs
  · exact .inr ⟨Nat.lt_of_lt_of_le h1 he.size, h2, by rw [take_ext he h1, h3]⟩
theorem rel_loop {p r : Int → ByteArray → ByteArray} (hp : ∀ k s, Ext s (p k s)) (hr : ∀ k s, Ext s (r k s)) (h : ∀ k s, Rel (p k s) (r k s)) : ∀ ks s, Rel (loopP p ks s) (loopR r ks s)
  | [], s => .inl rfl
  | k :: ks, s => by
    by_cases hs : 100000 < s.size
    · exact rel_ext (ext_loopP hp _ _) (ext_loopR hr _ _) hs
    · unfold loopP loopR
      rw [if_neg hs]
      rcases h k s with e | ⟨h1, h2, h3⟩
      · by_cases h4 : 100000 < (r k s).size
        · rw [if_pos h4, e]
          exact rel_ext (ext_loopP hp _ _) (Ext.refl _) h4
        · rw [if_neg h4, e]
          exact rel_loop hp hr h ks _
      · rw [if_pos h2]
        exact Rel.more (.inr ⟨h1, h2, h3⟩) h1 h2 (ext_loopP hp _ _)
theorem rel_lisp (ns : List Nd) : ∀ f n s, Rel (lispP ns f n s) (lispR ns f n s)
  | 0, _, s => .inl rfl
  | f + 1, n, s => by
    unfold lispP lispR
    by_cases hs : 100000 < s.size
    · rw [if_pos hs, if_pos hs]; exact .inl rfl
    · rw [if_neg hs, if_neg hs]
      cases ns[n]? with
      | none => exact .inl rfl
      | some x =>
        refine rel_loop (ext_step (ext_lispP ns f) n) (ext_step (ext_lispR ns f) n) (fun k s => ?_) _ _
        unfold stepT
        split
        · exact rel_lisp ns f _ _
        · exact .inl rfl
/-- What is handed out. -/
theorem rel_cut {a b : ByteArray} (h : Rel a b) : a.extract 0 (min a.size 100000) = b.extract 0 (min b.size 100000) := by
  rcases h with rfl | ⟨h1, h2, h3⟩
  · rfl
  · apply ByteArray.ext
    rw [Nat.min_eq_right (by omega), Nat.min_eq_right (by omega)]
    apply Array.ext'
    simpa [ByteArray.data_extract] using h3
/-- Sizes. -/
theorem itoaT_size (n : Int) (h0 : -9223372036854775808 ≤ n) (h1 : n ≤ 9223372036854775807) : (itoaT n).size ≤ 21 := by
  have := Lib.itoa_length_le n h0 h1
  simpa [itoaT, ByteArray.size] using this
theorem headT_size (x : Nd) (s : ByteArray) (hk : i64 x.kind) (hp : i64 x.place) (ht : x.text.size ≤ 4000) : (headT x s).size ≤ s.size + 16100 := by
  have h1 := itoaT_size x.kind hk.1 hk.2
  have h2 := itoaT_size x.place hp.1 hp.2
  have h3 := quoteT_size x.text
  have e1 : (⟨#[40]⟩ : ByteArray).size = 1 := rfl
  have e2 : (⟨#[32]⟩ : ByteArray).size = 1 := rfl
  have e3 : (⟨#[32, 64]⟩ : ByteArray).size = 2 := rfl
  unfold headT
  split <;> simp only [ByteArray.size_append, e1, e2, e3] <;> omega
theorem loopP_size {step : Int → ByteArray → ByteArray} {B : Nat} (hB : 100000 ≤ B) (h : ∀ k s, s.size ≤ 100000 → (step k s).size ≤ B) : ∀ ks s, s.size ≤ B → (loopP step ks s).size ≤ B + 1
  | [], s, hs => by
    unfold loopP
    have e : (⟨#[41]⟩ : ByteArray).size = 1 := rfl
    rw [ByteArray.size_append, e]; omega
  | k :: ks, s, hs => by
    unfold loopP
    split
    · omega
    · exact loopP_size hB h ks _ (h k s (by omega))
theorem lispP_size {ns : List Nd} (hn : ∀ x ∈ ns, i64 x.kind ∧ i64 x.place ∧ x.text.size ≤ 4000) : ∀ f n s, s.size ≤ 100000 + 1 → (lispP ns f n s).size ≤ 116200 + f
  | 0, _, s, hs => by unfold lispP; omega
  | f + 1, n, s, hs => by
    unfold lispP
    split
    · omega
    · rename_i h0
      split
      · omega
      · rename_i x hx
        obtain ⟨k1, k2, k3⟩ := hn x (List.mem_of_getElem? hx)
        have h1 := headT_size x s k1 k2 k3
        have e2 : (⟨#[32]⟩ : ByteArray).size = 1 := rfl
        have e3 : (⟨#[63]⟩ : ByteArray).size = 1 := rfl
        have := loopP_size (step := stepT (lispP ns f) n) (B := 116200 + f) (by omega) (fun k s hs => by
          unfold stepT
          split
          · exact lispP_size hn f _ _ (by rw [ByteArray.size_append, e2]; omega)
          · simp only [ByteArray.size_append, e2, e3]; omega) x.kids (headT x s) (by omega)
        omega
theorem loopR_size {step : Int → ByteArray → ByteArray} {B : Nat} (hB : 100000 ≤ B) (h : ∀ k s, s.size ≤ 100000 → (step k s).size ≤ B) (h2 : ∀ k s, 100000 < s.size → (step k s).size ≤ s.size + 2) : ∀ ks s, s.size ≤ B → (loopR step ks s).size ≤ B + 2
  | [], s, hs => by
    unfold loopR
    have e : (⟨#[41]⟩ : ByteArray).size = 1 := rfl
    rw [ByteArray.size_append, e]; omega
  | k :: ks, s, hs => by
    unfold loopR
    by_cases hm : s.size ≤ 100000
    · have := h k s hm
      split
      · omega
      · exact loopR_size hB h h2 ks _ this
    · have := h2 k s (by omega)
      split
      · omega
      · exact loopR_size hB h h2 ks _ (by omega)
theorem lispR_size {ns : List Nd} (hn : ∀ x ∈ ns, i64 x.kind ∧ i64 x.place ∧ x.text.size ≤ 4000) : ∀ f n s, s.size ≤ 100000 + 1 → (lispR ns f n s).size ≤ 116200 + 2 * f
  | 0, _, s, hs => by unfold lispR; omega
  | f + 1, n, s, hs => by
    unfold lispR
    split
    · omega
    · rename_i h0
      split
      · omega
      · rename_i x hx
        obtain ⟨k1, k2, k3⟩ := hn x (List.mem_of_getElem? hx)
        have h1 := headT_size x s k1 k2 k3
        have e2 : (⟨#[32]⟩ : ByteArray).size = 1 := rfl
        have e3 : (⟨#[63]⟩ : ByteArray).size = 1 := rfl
        have hlong : ∀ f n s, 100000 < s.size → lispR ns f n s = s := fun f n s h => by
          cases f with
          | zero => rfl
          | succ f => unfold lispR; rw [if_pos h]
        have := loopR_size (step := stepT (lispR ns f) n) (B := 116200 + 2 * f) (by omega) (fun k s hs => by
          unfold stepT
          split
          · exact lispR_size hn f _ _ (by rw [ByteArray.size_append, e2]; omega)
          · simp only [ByteArray.size_append, e2, e3]; omega) (fun k s hs => by
          unfold stepT
          split
          · rw [hlong _ _ _ (by rw [ByteArray.size_append, e2]; omega), ByteArray.size_append, e2]; omega
          · simp only [ByteArray.size_append, e2, e3]; omega) x.kids (headT x s) (by omega)
        omega
end Go.Proofs.YtjchnliaglecoaaGreatDoor
