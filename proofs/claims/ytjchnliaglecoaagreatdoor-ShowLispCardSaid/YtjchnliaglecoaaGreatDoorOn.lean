/- One of some words, walked. Conditions: the library's variables; short texts. -/
import Derived.Lib.IndexAny
import Derived.Test.YtjchnliaglecoaaGreatDoorNr
set_option linter.unusedVariables false
set_option linter.unusedSimpArgs false
namespace Go.Proofs.YtjchnliaglecoaaGreatDoor
open Go Go.RowKit
set_option linter.unusedVariables false
set_option linter.unusedSimpArgs false
def oneS (l a : List UInt8) : Bool := !l.isEmpty && !decide (0 ≤ Lib.indexByte l 32) && Lib.contains (32 :: (a ++ [32])) (32 :: (l ++ [32]))
def cands : List UInt8 → List (List UInt8)
  | [] => []
  | b :: l => if b = 32 then l.takeWhile (fun x => x != 32) :: cands l else cands l
theorem takeWhile_pre : ∀ (l H : List UInt8), 32 ∉ l → (l ++ [32]).isPrefixOf H = true → H.takeWhile (fun x => x != 32) = l
  | [], [], _, h => by simp at h
  | [], b :: H, _, h => by
    simp at h
    subst h
    simp
  | x :: l, [], _, h => by simp at h
  | x :: l, b :: H, hl, h => by
    rw [List.cons_append, List.isPrefixOf_cons_cons, Bool.and_eq_true] at h
    have e : x = b := eq_of_beq h.1
    subst e
    have hx : (x != 32) = true := by
      rw [bne_iff_ne]; intro e; subst e; exact hl List.mem_cons_self
    rw [List.takeWhile_cons, hx]
    simp only [if_true]
    rw [takeWhile_pre l H (fun h' => hl (List.mem_cons_of_mem _ h')) h.2]
theorem index_cand (l : List UInt8) (hl : 32 ∉ l) : ∀ H : List UInt8, 0 ≤ Lib.index H (32 :: (l ++ [32])) → l ∈ cands H
  | [], h => by simp [Lib.index] at h
  | b :: H, h => by
    unfold Lib.index at h
    unfold cands
    split at h
    · rename_i hp
      rw [List.isPrefixOf_cons_cons, Bool.and_eq_true] at hp
      have e : 32 = b := eq_of_beq hp.1
      subst e
      rw [if_pos rfl, takeWhile_pre l H hl hp.2]
      exact List.mem_cons_self
    · split at h
      · omega
      · have h2 : 0 ≤ Lib.index H (32 :: (l ++ [32])) := by
          rename_i h3
          have := Lib.index_ge H (32 :: (l ++ [32]))
          simp at h3
          omega
        have := index_cand l hl H h2
        split
        · exact List.mem_cons_of_mem _ this
        · exact this
theorem indexByte_mem (l : List UInt8) : decide (0 ≤ Lib.indexByte l 32) = l.contains 32 := (Lib.contains_iff_indexByte l 32).symm
theorem one_eq {a : List UInt8} {W : List (List UInt8)} (h1 : (cands (32 :: (a ++ [32]))).all (fun c => c.isEmpty || W.contains c) = true) (h2 : W.all (fun l => oneS l a) = true) (l : List UInt8) : oneS l a = W.contains l := by
  cases h : W.contains l with
  | true => exact List.all_eq_true.1 h2 l (by simpa using h)
  | false =>
    cases h3 : oneS l a with
    | false => rfl
    | true =>
      unfold oneS at h3
      simp only [Bool.and_eq_true, Bool.not_eq_true'] at h3
      obtain ⟨⟨g1, g2⟩, g3⟩ := h3
      rw [indexByte_mem] at g2
      have g4 : 32 ∉ l := by simpa using g2
      unfold Lib.contains at g3
      have := index_cand l g4 _ (of_decide_eq_true g3)
      have h5 := List.all_eq_true.1 h1 l this
      rw [g1, h] at h5
      cases h5
theorem surr (a : ByteArray) : (({ data := #[32] } : ByteArray) ++ a ++ { data := #[32] }).data.toList = 32 :: (a.data.toList ++ [32]) := by
  simp [ByteArray.data_append]
theorem surr_size (a : ByteArray) (h : a.size ≤ 1000) : (({ data := #[32] } : ByteArray) ++ a ++ { data := #[32] }).size < 4294967281 := by
  rw [ByteArray.size_append, ByteArray.size_append]
  show 1 + a.size + 1 < 4294967281
  omega
set_option maxRecDepth 10000 in
theorem one_any (s a : ByteArray) (hs : s.size ≤ 100000) (ha : a.size ≤ 1000) (w : World) (hl : Lib0 w) :
    Calls Tryz.prog 182 #[.string s, .string a] w fun e w' => e = .returned (.bool (oneS s.data.toList a.data.toList)) ∧ Below w.heap.size w w' := by
  obtain ⟨m, hm⟩ := hl.max
  have Hm := hid hm
  clear hm hl
  by_cases h0 : s.toList = []
  · have hr : oneS s.data.toList a.data.toList = false := by rw [← ByteArray.toList_eq, h0]; rfl
    have Hr := hid hr
    clear hr
    go_enter Tryz.func182, Tryz.ntmps182
    go_wp2
    go_ret
    exact ⟨by rw [Hr.out]; rfl, Below.refl _ _⟩
  · have h1 : s.toList.isEmpty = false := by cases e : s.toList with
      | nil => exact absurd e h0
      | cons x l => rfl
    have hc1 := Tryz.strings_Contains_one s 32
    have hr : oneS s.data.toList a.data.toList = (!decide (0 ≤ Lib.indexByte s.data.toList 32) && Lib.contains (32 :: (a.data.toList ++ [32])) (32 :: (s.data.toList ++ [32]))) := by
      unfold oneS
      rw [← ByteArray.toList_eq, h1]; rfl
    generalize decide (0 ≤ Lib.indexByte s.data.toList 32) = x at *
    have Hc1 := hid hc1
    have Hr := hid hr
    clear hc1 hr
    have hc2 : Calls Tryz.prog 227 #[.string ({ data := #[32] } ++ a ++ { data := #[32] }), .string ({ data := #[32] } ++ s ++ { data := #[32] })] w fun e w' => e = .returned (.bool (Lib.contains (32 :: (a.data.toList ++ [32])) (32 :: (s.data.toList ++ [32])))) ∧ w' = w := by
      have := Tryz.strings_Contains _ ({ data := #[32] } ++ s ++ { data := #[32] }) m w (surr_size a ha) Hm.out
      rwa [surr, surr] at this
    generalize Lib.contains (32 :: (a.data.toList ++ [32])) (32 :: (s.data.toList ++ [32])) = y at *
    have Hc2 := hid hc2
    clear hc2
    cases x with
    | true =>
      have Hr2 : Hid (oneS s.data.toList a.data.toList = false) := hid (by rw [Hr.out]; rfl)
      clear Hr
      go_enter Tryz.func182, Tryz.ntmps182
      go_wp2_with (go_at_call 227; ((with_reducible refine (Hc1.out _).mono ?_)); rintro e w' ⟨rfl, rfl⟩)
      go_ret
      exact ⟨by rw [Hr2.out]; rfl, Below.refl _ _⟩
    | false =>
      have Hr2 : Hid (oneS s.data.toList a.data.toList = y) := hid (by rw [Hr.out]; rfl)
      clear Hr
      go_enter Tryz.func182, Tryz.ntmps182
      go_wp2_with (first
        | (go_at_call 227; ((with_reducible refine (Hc1.out _).mono ?_)); rintro e w' ⟨rfl, rfl⟩)
        | (go_at_call 227; refine Hc2.out.mono ?_; rintro e w' ⟨rfl, rfl⟩))
      go_ret
      exact ⟨by rw [Hr2.out]; rfl, Below.refl _ _⟩
end Go.Proofs.YtjchnliaglecoaaGreatDoor
