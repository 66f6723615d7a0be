/- CodeShows: what one word and many words are shown as. Conditions: the table of powers that strconv reads is as the program lays it. -/
import Derived.Test.YtjocifamacpamaaDoorShowB
import Derived.Test.YtjocifamacpamaaDoorDecC
import Derived.Test.YtjocifamacpamaaDoorBw
namespace Go.Proofs.YtjocifamacpamaaDoor
open Go Go.RowKit
set_option linter.unusedVariables false
set_option linter.unusedSimpArgs false
theorem own_below {w w' : World} {B : Nat} {e : TypeId} {size : Nat} {v : Value} {n : Nat} {xs : List Value} (h : w.ownsRow B e size v n xs) (hb : Below w.heap.size w w') : w'.ownsRow B e size v n xs := by
  obtain ⟨h1, h2⟩ := h
  refine ⟨h1, ?_⟩
  rcases h2 with h2 | ⟨g, cap, cur, hv, hg, hh, hr⟩
  · exact Or.inl h2
  · exact Or.inr ⟨g, cap, cur, hv, hg, by rw [hb.block g (Array.getElem?_eq_some_iff.1 hh).1]; exact hh, hr⟩
theorem builderAt_below {T e : TypeId} {B b : Nat} {p : Value} {bs : List Value} {W W' : World} (h : Lib.BuilderAt T e B b p bs W) (hb : Below W.heap.size W W') : Lib.BuilderAt T e B b p bs W' := by
  have hlt := h.lt
  obtain ⟨hB, v, hv, hown, hne⟩ := h
  exact ⟨hB, v, (hb.block b hlt).trans hv, own_below hown hb, hne⟩
theorem isBuilder_below {T e : TypeId} {B b : Nat} {bs : List Value} {W W' : World} (h : Lib.IsBuilder T e B b bs W) (hb : Below W.heap.size W W') : Lib.IsBuilder T e B b bs W' :=
  h.elim (fun x => .inl (builderAt_below x hb)) (fun x => .inr (builderAt_below x hb))
theorem shS_size (s : ByteArray) (n : Int) (h0 : -32768 ≤ n) (h1 : n ≤ 32767) : (shS s n).size ≤ s.size + 22 := by
  have h := itoaB_size n h0 h1
  have h2 : (⟨#[32]⟩ : ByteArray).size = 1 := rfl
  unfold shS
  rw [ByteArray.size_append, ByteArray.size_append, h2]
  omega
theorem show_both2 (n a b c d : Int) : ∃ S : ByteArray, S.size ≤ 100 ∧ (∀ w, Tab w → Calls Tryd.prog 6 #[.agg #[.int .i64 n, .int .i64 a, .int .i64 b, .int .i64 c, .int .i64 d]] w fun e w' => e = .returned (.string S) ∧ Below w.heap.size w w') ∧
    (∀ w, Tab w → Calls Tryd.prog 7 #[.agg #[.int .i64 n, .int .i64 a, .int .i64 b, .int .i64 c, .int .i64 d]] w fun e w' => e = .returned (.string S) ∧ Below w.heap.size w w') := by
  have hN := nm_size n
  cases hR : refS n a b c d with
  | none => exact ⟨⟨#[63]⟩, by decide, fun w _ => show_none n a b c d hR w, fun w _ => refShow_none n a b c d hR w⟩
  | some y =>
    have hc := fmI_case n
    generalize hF : fmI n = F at hc
    cases hc with
    | c0 => rw [refS_0 _ _ _ _ _ hF] at hR; exact absurd hR (by simp)
    | c1 =>
      refine ⟨_, ?_, fun w ht => show_c1 n a b c d y _ _ rfl hF.symm rfl hR w ht, fun w ht => refShow_c1 n a b c d y _ _ rfl hF.symm rfl hR w ht⟩
      have hcon := (refS_1 n a b c d y hF).1 hR
      have h1 := shS_size (nmI n) a (by omega) (by omega)
      omega
    | c2 =>
      refine ⟨_, ?_, fun w ht => show_c2 n a b c d y _ _ rfl hF.symm rfl hR w ht, fun w ht => refShow_c2 n a b c d y _ _ rfl hF.symm rfl hR w ht⟩
      have hcon := (refS_2 n a b c d y hF).1 hR
      have h1 := shS_size (nmI n) a (by omega) (by omega)
      have h2 := shS_size (shS (nmI n) a) b (by omega) (by omega)
      omega
    | c3 =>
      refine ⟨_, ?_, fun w ht => show_c3 n a b c d y _ _ rfl hF.symm rfl hR w ht, fun w ht => refShow_c3 n a b c d y _ _ rfl hF.symm rfl hR w ht⟩
      have hcon := (refS_3 n a b c d y hF).1 hR
      have h1 := shS_size (nmI n) a (by omega) (by omega)
      have h2 := shS_size (shS (nmI n) a) b (by omega) (by omega)
      have h3 := shS_size (shS (shS (nmI n) a) b) c (by omega) (by omega)
      omega
    | c4 =>
      refine ⟨_, ?_, fun w ht => show_c4 n a b c d y _ _ rfl hF.symm rfl hR w ht, fun w ht => refShow_c4 n a b c d y _ _ rfl hF.symm rfl hR w ht⟩
      have hcon := (refS_4 n a b c d y hF).1 hR
      have h1 := shS_size (nmI n) a (by omega) (by omega)
      have h2 := shS_size (shS (nmI n) a) d (by omega) (by omega)
      omega
    | c5 =>
      refine ⟨_, ?_, fun w ht => show_c5 n a b c d y _ _ rfl hF.symm rfl hR w ht, fun w ht => refShow_c5 n a b c d y _ _ rfl hF.symm rfl hR w ht⟩
      have hcon := (refS_5 n a b c d y hF).1 hR
      have h1 := shS_size (nmI n) d (by omega) (by omega)
      omega
/-- What a word is shown as. -/
def WordText (x : Int) (S : ByteArray) : Prop := S.size ≤ 100 ∧ ((decS x = badV ∧ S = ⟨#[63]⟩) ∨ ∃ n a b c d, decS x = .tuple #[insV n a b c d, .int .i64 0] ∧
  (∀ w, Tab w → Calls Tryd.prog 6 #[.agg #[.int .i64 n, .int .i64 a, .int .i64 b, .int .i64 c, .int .i64 d]] w fun e w' => e = .returned (.string S) ∧ Below w.heap.size w w') ∧
  (∀ w, Tab w → Calls Tryd.prog 7 #[.agg #[.int .i64 n, .int .i64 a, .int .i64 b, .int .i64 c, .int .i64 d]] w fun e w' => e = .returned (.string S) ∧ Below w.heap.size w w'))
theorem wordText (x : Int) : ∃ S, WordText x S := by
  rcases decS_form x with ⟨n, a, b, c, d, h, _⟩ | h
  · obtain ⟨S, h1, h2, h3⟩ := show_both2 n a b c d
    exact ⟨S, h1, .inr ⟨n, a, b, c, d, h, h2, h3⟩⟩
  · exact ⟨⟨#[63]⟩, by decide, .inl ⟨h, rfl⟩⟩
noncomputable def txt (x : Int) : ByteArray := Classical.choose (wordText x)
theorem txt_spec (x : Int) : WordText x (txt x) := Classical.choose_spec (wordText x)
/-- One line. -/
noncomputable def lineB (k : Nat) (x : Int) : ByteArray := ((itoaB k ++ ⟨#[58, 32]⟩) ++ txt x) ++ ⟨#[10]⟩
theorem lineB_size (k : Nat) (x : Int) (hk : k ≤ 2000) : (lineB k x).size ≤ 124 := by
  have h := itoaB_size k (by omega) (by omega)
  have h2 := (txt_spec x).1
  have h3 : (⟨#[58, 32]⟩ : ByteArray).size = 2 := rfl
  have h4 : (⟨#[10]⟩ : ByteArray).size = 1 := rfl
  unfold lineB
  rw [ByteArray.size_append, ByteArray.size_append, ByteArray.size_append, h3, h4]
  omega
/-- The lines of the first k words. -/
noncomputable def linesB (xs : List Int) : Nat → ByteArray
  | 0 => ⟨#[]⟩
  | k + 1 => linesB xs k ++ lineB k (xs.getD k 0)
theorem linesB_size (xs : List Int) : ∀ k, k ≤ 2000 → (linesB xs k).size ≤ 124 * k
  | 0, _ => Nat.zero_le _
  | k + 1, h => by
    have h1 := linesB_size xs k (by omega)
    have h2 := lineB_size k (xs.getD k 0) (by omega)
    unfold linesB
    rw [ByteArray.size_append]; omega
theorem strCells_append (a b : ByteArray) : Lib.strCells a ++ Lib.strCells b = Lib.strCells (a ++ b) := by
  simp [Lib.strCells, ByteArray.data_append]
end Go.Proofs.YtjocifamacpamaaDoor
