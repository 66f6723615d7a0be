/- One of some words, walked. Conditions: the library's variables; short texts. -/
import Derived.Lib.IndexAny
import Derived.Test.YtjchnliaglecoaaGreatDoorNrX
set_option linter.unusedVariables false
set_option linter.unusedSimpArgs false
namespace Go.Proofs.YtjchnliaglecoaaGreatDoor
open Go Go.RowKit
set_option linter.unusedVariables false
set_option linter.unusedSimpArgs false
def oneS (l a : List UInt8) : Bool := !l.isEmpty && !decide (0 ≤ Lib.indexByte l 32) && Lib.contains (32 :: (a ++ [32])) (32 :: (l ++ [32]))
def cands : List UInt8 → List (List UInt8)
  | [] => []
  | b :: l => if b = 32 then l.takeWhile (fun x => x != 32) :: cands l else cands l
theorem takeWhile_pre : ∀ (l H : List UInt8), 32 ∉ l → (l ++ [32]).isPrefixOf H = true → H.takeWhile (fun x => x != 32) = l
  | [], [], _, h => by simp at h
  | [], b :: H, _, h => by
    simp at h
    subst h
    simp
  | x :: l, [], _, h => by simp at h
  | x :: l, b :: H, hl, h => by
    rw [List.cons_append, List.isPrefixOf_cons_cons, Bool.and_eq_true] at h
    have e : x = b := eq_of_beq h.1
    subst e
    have hx : (x != 32) = true := by
      rw [bne_iff_ne]; intro e; subst e; exact hl List.mem_cons_self
    rw [List.takeWhile_cons, hx]
    simp only [if_true]
    rw [takeWhile_pre l H (fun h' => hl (List.mem_cons_of_mem _ h')) h.2]
theorem index_cand (l : List UInt8) (hl : 32 ∉ l) : ∀ H : List UInt8, 0 ≤ Lib.index H (32 :: (l ++ [32])) → l ∈ cands H
  | [], h => by simp [Lib.index] at h
  | b :: H, h => by
    unfold Lib.index at h
    unfold cands
    split at h
    · rename_i hp
      rw [List.isPrefixOf_cons_cons, Bool.and_eq_true] at hp
      have e : 32 = b := eq_of_beq hp.1
      subst e
      rw [if_pos rfl, takeWhile_pre l H hl hp.2]
      exact List.mem_cons_self
    · split at h
      · omega
      · have h2 : 0 ≤ Lib.index H (32 :: (l ++ [32])) := by
          rename_i h3
          have := Lib.index_ge H (32 :: (l ++ [32]))
          simp at h3
          omega
        have := index_cand l hl H h2
        split
        · exact List.mem_cons_of_mem _ this
        · exact this
theorem indexByte_mem (l : List UInt8) : decide (0 ≤ Lib.indexByte l 32) = l.contains 32 := (Lib.contains_iff_indexByte l 32).symm
theorem one_eq {a : List UInt8} {W : List (List UInt8)} (h1 : (cands (32 :: (a ++ [32]))).all (fun c => c.isEmpty || W.contains c) = true) (h2 : W.all (fun l => oneS l a) = true) (l : List UInt8) : oneS l a = W.contains l := by
  cases h : W.contains l with
  | true => exact List.all_eq_true.1 h2 l (by simpa using h)
  | false =>
    cases h3 : oneS l a with
    | false => rfl
    | true =>
      unfold oneS at h3
      simp only [Bool.and_eq_true, Bool.not_eq_true'] at h3
      obtain ⟨⟨g1, g2⟩, g3⟩ := h3
      rw [indexByte_mem] at g2
      have g4 : 32 ∉ l := by simpa using g2
      unfold Lib.contains at g3
      have := index_cand l g4 _ (of_decide_eq_true g3)
      have h5 := List.all_eq_true.1 h1 l this
      rw [g1, h] at h5
      cases h5
theorem surr (a : ByteArray) : (({ data := #[32] } : ByteArray) ++ a ++ { data := #[32] }).data.toList = 32 :: (a.data.toList ++ [32]) := by
  simp [ByteArray.data_append]
theorem surr_size (a : ByteArray) (h : a.size ≤ 1000) : (({ data := #[32] } : ByteArray) ++ a ++ { data := #[32] }).size < 4294967281 := by
  rw [ByteArray.size_append, ByteArray.size_append]
  show 1 + a.size + 1 < 4294967281
  omega
set_option maxRecDepth 10000 in
theorem one_any (s a : ByteArray) (hs : s.size ≤ 100000) (ha : a.size ≤ 1000) (w : World) (hl : Lib0 w) :
    Calls Tryz.prog 182 #[.string s, .string a] w fun e w' => e = .returned (.bool (oneS s.data.toList a.data.toList)) ∧ Below w.heap.size w w' := by
  obtain ⟨m, hm⟩ := hl.max
  have Hm := hid hm
  clear hm hl
  by_cases h0 : s.toList = []
  · have hr : oneS s.data.toList a.data.toList = false := by rw [← ByteArray.toList_eq, h0]; rfl
    have Hr := hid hr
    clear hr
    go_enter Tryz.func182, Tryz.ntmps182
    go_wp2
    go_ret
    exact ⟨by rw [Hr.out]; rfl, Below.refl _ _⟩
  · have h1 : s.toList.isEmpty = false := by cases e : s.toList with
      | nil => exact absurd e h0
      | cons x l => rfl
    have hc1 := Tryz.strings_Contains_one s 32
    have hr : oneS s.data.toList a.data.toList = (!decide (0 ≤ Lib.indexByte s.data.toList 32) && Lib.contains (32 :: (a.data.toList ++ [32])) (32 :: (s.data.toList ++ [32]))) := by
      unfold oneS
      rw [← ByteArray.toList_eq, h1]; rfl
    generalize decide (0 ≤ Lib.indexByte s.data.toList 32) = x at *
    have Hc1 := hid hc1
    have Hr := hid hr
    clear hc1 hr
    have hc2 : Calls Tryz.prog 227 #[.string ({ data := #[32] } ++ a ++ { data := #[32] }), .string ({ data := #[32] } ++ s ++ { data := #[32] })] w fun e w' => e = .returned (.bool (Lib.contains (32 :: (a.data.toList ++ [32])) (32 :: (s.data.toList ++ [32])))) ∧ w' = w := by
      have := Tryz.strings_Contains _ ({ data := #[32] } ++ s ++ { data := #[32] }) m w (surr_size a ha) Hm.out
      rwa [surr, surr] at this
    generalize Lib.contains (32 :: (a.data.toList ++ [32])) (32 :: (s.data.toList ++ [32])) = y at *
    have Hc2 := hid hc2
    clear hc2
    cases x with
    | true =>
      have Hr2 : Hid (oneS s.data.toList a.data.toList = false) := hid (by rw [Hr.out]; rfl)
      clear Hr
      go_enter Tryz.func182, Tryz.ntmps182
      go_wp2_with (go_at_call 227; ((with_reducible refine (Hc1.out _).mono ?_)); rintro e w' ⟨rfl, rfl⟩)
      go_ret
      exact ⟨by rw [Hr2.out]; rfl, Below.refl _ _⟩
    | false =>
      have Hr2 : Hid (oneS s.data.toList a.data.toList = y) := hid (by rw [Hr.out]; rfl)
      clear Hr
      go_enter Tryz.func182, Tryz.ntmps182
      go_wp2_with (first
        | (go_at_call 227; ((with_reducible refine (Hc1.out _).mono ?_)); rintro e w' ⟨rfl, rfl⟩)
        | (go_at_call 227; refine Hc2.out.mono ?_; rintro e w' ⟨rfl, rfl⟩))
      go_ret
      exact ⟨by rw [Hr2.out]; rfl, Below.refl _ _⟩
end Go.Proofs.YtjchnliaglecoaaGreatDoor

/- Masks and channels, walked. Conditions: the library's variables; short texts. -/
namespace Go.Proofs.YtjchnliaglecoaaGreatDoor
open Go Go.RowKit
set_option linter.unusedVariables false
set_option linter.unusedSimpArgs false
def minL : List UInt8 := [45, 57, 50, 50, 51, 51, 55, 50, 48, 51, 54, 56, 53, 52, 55, 55, 53, 56, 48, 56]
/-- Whether it is a mask's text. -/
def maskS (l : List UInt8) : Bool := if l = minL then true else match numS (Lib.trimPrefix l [45]) with
  | none => false
  | some n => decide (Lib.itoa (wrap64 n) = l) || (decide (0 < wrap64 n) && decide (Lib.itoa (-wrap64 n) = l))
theorem wrap64_lo (x : Int) : -9223372036854775808 ≤ wrap64 x := by unfold wrap64; omega
theorem wrap64_hi (x : Int) : wrap64 x ≤ 9223372036854775807 := by unfold wrap64; omega
theorem trim_le (l p : List UInt8) : (Lib.trimPrefix l p).length ≤ l.length := by
  unfold Lib.trimPrefix
  split
  · simp
  · exact Nat.le_refl _
set_option maxRecDepth 10000 in
set_option maxHeartbeats 1000000 in
theorem mask_any (s : ByteArray) (hs : s.size ≤ 100000) (w : World) (hl : Lib0 w) :
    Calls Tryz.prog 185 #[.string s] w fun e w' => e = .returned (.bool (maskS s.data.toList)) ∧ Below w.heap.size w w' := by
  have hln : s.data.toList.length = s.size := by simp
  obtain ⟨t, ht⟩ : ∃ t : ByteArray, t = ⟨(Lib.trimPrefix s.data.toList [45]).toArray⟩ := ⟨_, rfl⟩
  have htd : t.data.toList = Lib.trimPrefix s.data.toList [45] := by rw [ht]
  have hts : t.size ≤ 100000 := by
    have h1 : t.data.toList.length = t.size := by simp
    have := trim_le s.data.toList [45]
    rw [← htd] at this
    omega
  have Htrim : Hid (∀ w, Calls Tryz.prog 229 #[.string s, .string ⟨#[45]⟩] w fun e w' => e = .returned (.string t) ∧ w' = w) := hid (by rw [ht]; exact Tryz.strings_TrimPrefix s ⟨#[45]⟩)
  have Hnum : Hid (∀ w, Calls Tryz.prog 183 #[.string t] w fun e w' => e = .returned (numV (numS t.data.toList)) ∧ Below w.heap.size w w') := hid (fun w => number_any t (by omega) w)
  have Hl := hid hl
  have hm : maskS s.data.toList = if s.data.toList = minL then true else match numS t.data.toList with
    | none => false
    | some n => decide (Lib.itoa (wrap64 n) = s.data.toList) || (decide (0 < wrap64 n) && decide (Lib.itoa (-wrap64 n) = s.data.toList)) := by
    rw [htd]; rfl
  clear hl ht htd hln
  generalize numS t.data.toList = o at *
  have Hm := hid hm
  clear hm
  cases o with
  | none =>
    have Hnum2 : Hid (∀ w, Calls Tryz.prog 183 #[.string t] w fun e w' => e = .returned (.tuple #[.int .i64 0, .bool false]) ∧ Below w.heap.size w w') := Hnum
    clear Hnum
    by_cases h0 : s.data.toList = minL
    · have h1 : (s.toList == [45, 57, 50, 50, 51, 51, 55, 50, 48, 51, 54, 56, 53, 52, 55, 55, 53, 56, 48, 56]) = true := by
        rw [ByteArray.toList_eq, h0]; exact beq_self_eq_true minL
      have Hr : Hid (maskS s.data.toList = true) := hid (by rw [Hm.out, if_pos h0])
      clear Hm h0
      go_enter Tryz.func185, Tryz.ntmps185
      go_wp2_with (first
        | (go_at_call 229; ((with_reducible refine (Htrim.out _).mono ?_)); rintro e w' ⟨rfl, rfl⟩)
        | (go_at_call 183; ((with_reducible refine (Hnum2.out _).mono ?_)); rintro e w' ⟨rfl, hb⟩; obtain ⟨g1, rfl⟩ := bout hb; clear hb)
        | (go_at_call 184; refine (show_any _ (by omega) (by omega) _ (Hl.out.later (by repeat (first | exact Below.refl _ _ | refine bG ?_ _ | refine bI ?_ _ _ | refine bA ?_ _)))).mono ?_; rintro e w' ⟨rfl, hb⟩; obtain ⟨g2, rfl⟩ := bout hb; clear hb))
      go_ret
      exact ⟨by rw [Hr.out]; rfl, by repeat (first | exact Below.refl _ _ | refine bG ?_ _ | refine bI ?_ _ _ | refine bA ?_ _)⟩
    · have h1 : (s.toList == [45, 57, 50, 50, 51, 51, 55, 50, 48, 51, 54, 56, 53, 52, 55, 55, 53, 56, 48, 56]) = false := by
        rw [ByteArray.toList_eq]
        cases e : s.data.toList == minL with
        | true => exact absurd (eq_of_beq e) h0
        | false => exact e
      have Hr : Hid (maskS s.data.toList = false) := hid (by rw [Hm.out, if_neg h0])
      clear Hm h0
      go_enter Tryz.func185, Tryz.ntmps185
      go_wp2_with (first
        | (go_at_call 229; ((with_reducible refine (Htrim.out _).mono ?_)); rintro e w' ⟨rfl, rfl⟩)
        | (go_at_call 183; ((with_reducible refine (Hnum2.out _).mono ?_)); rintro e w' ⟨rfl, hb⟩; obtain ⟨g1, rfl⟩ := bout hb; clear hb)
        | (go_at_call 184; refine (show_any _ (by omega) (by omega) _ (Hl.out.later (by repeat (first | exact Below.refl _ _ | refine bG ?_ _ | refine bI ?_ _ _ | refine bA ?_ _)))).mono ?_; rintro e w' ⟨rfl, hb⟩; obtain ⟨g2, rfl⟩ := bout hb; clear hb))
      go_ret
      exact ⟨by rw [Hr.out]; rfl, by repeat (first | exact Below.refl _ _ | refine bG ?_ _ | refine bI ?_ _ _ | refine bA ?_ _)⟩
  | some n =>
    have Hnum2 : Hid (∀ w, Calls Tryz.prog 183 #[.string t] w fun e w' => e = .returned (.tuple #[.int .i64 (wrap64 n), .bool true]) ∧ Below w.heap.size w w') := Hnum
    have z0 := wrap64_lo (n : Int)
    have z1 := wrap64_hi (n : Int)
    have hm2 := Hm.out
    simp only at hm2
    clear Hnum Hm
    generalize wrap64 (n : Int) = z at *
    have Hm := hid hm2
    clear hm2
    by_cases h0 : s.data.toList = minL
    · have h1 : (s.toList == [45, 57, 50, 50, 51, 51, 55, 50, 48, 51, 54, 56, 53, 52, 55, 55, 53, 56, 48, 56]) = true := by
        rw [ByteArray.toList_eq, h0]; exact beq_self_eq_true minL
      have Hr : Hid (maskS s.data.toList = true) := hid (by rw [Hm.out, if_pos h0])
      clear Hm h0
      go_enter Tryz.func185, Tryz.ntmps185
      go_wp2_with (first
        | (go_at_call 229; ((with_reducible refine (Htrim.out _).mono ?_)); rintro e w' ⟨rfl, rfl⟩)
        | (go_at_call 183; ((with_reducible refine (Hnum2.out _).mono ?_)); rintro e w' ⟨rfl, hb⟩; obtain ⟨g1, rfl⟩ := bout hb; clear hb)
        | (go_at_call 184; refine (show_any _ (by omega) (by omega) _ (Hl.out.later (by repeat (first | exact Below.refl _ _ | refine bG ?_ _ | refine bI ?_ _ _ | refine bA ?_ _)))).mono ?_; rintro e w' ⟨rfl, hb⟩; obtain ⟨g2, rfl⟩ := bout hb; clear hb))
      go_ret
      exact ⟨by rw [Hr.out]; rfl, by repeat (first | exact Below.refl _ _ | refine bG ?_ _ | refine bI ?_ _ _ | refine bA ?_ _)⟩
    · have h1 : (s.toList == [45, 57, 50, 50, 51, 51, 55, 50, 48, 51, 54, 56, 53, 52, 55, 55, 53, 56, 48, 56]) = false := by
        rw [ByteArray.toList_eq]
        cases e : s.data.toList == minL with
        | true => exact absurd (eq_of_beq e) h0
        | false => exact e
      obtain ⟨S1, hS1⟩ : ∃ S : ByteArray, S = ⟨(Lib.itoa z).toArray⟩ := ⟨_, rfl⟩
      obtain ⟨S2, hS2⟩ : ∃ S : ByteArray, S = ⟨(Lib.itoa (-z)).toArray⟩ := ⟨_, rfl⟩
      have H1 : Hid (∀ w, Lib0 w → Calls Tryz.prog 184 #[.int .i64 z] w fun e w' => e = .returned (.string S1) ∧ Below w.heap.size w w') := hid (by rw [hS1]; exact fun w h => show_any z z0 z1 w h)
      have H2 : Hid (0 < z → ∀ w, Lib0 w → Calls Tryz.prog 184 #[.int .i64 (-z)] w fun e w' => e = .returned (.string S2) ∧ Below w.heap.size w w') := hid (by rw [hS2]; exact fun hz w h => show_any (-z) (by omega) (by omega) w h)
      have e1 : decide (Lib.itoa z = s.data.toList) = (S1.toList == s.toList) := by
        rw [ByteArray.toList_eq, ByteArray.toList_eq, hS1]; exact (Bool.beq_eq_decide_eq _ _).symm
      have e2 : decide (Lib.itoa (-z) = s.data.toList) = (S2.toList == s.toList) := by
        rw [ByteArray.toList_eq, ByteArray.toList_eq, hS2]; exact (Bool.beq_eq_decide_eq _ _).symm
      have hr : maskS s.data.toList = ((S1.toList == s.toList) || (decide (0 < z) && (S2.toList == s.toList))) := by rw [Hm.out, if_neg h0, e1, e2]
      have Hr := hid hr
      have HL : Hid (∀ w', Below w.heap.size w w' → Lib0 w') := hid fun w' h => Hl.out.later h
      clear Hm h0 hr hS1 hS2 e1 e2 Hl
      by_cases hz : 0 < z
      · have H2 := hid (H2.out hz)
        have Hr2 : Hid (maskS s.data.toList = ((S1.toList == s.toList) || (S2.toList == s.toList))) := hid (by rw [Hr.out, decide_eq_true hz, Bool.true_and])
        clear Hr
        cases q1 : (S1.toList == s.toList) with
        | true =>
          have Hr : Hid (maskS s.data.toList = true) := hid (by rw [Hr2.out, q1, Bool.true_or])
          clear Hr2
          go_enter Tryz.func185, Tryz.ntmps185
          go_wp2_with (first
          | (go_at_call 229; ((with_reducible refine (Htrim.out _).mono ?_)); rintro e w' ⟨rfl, rfl⟩)
          | (go_at_call 183; ((with_reducible refine (Hnum2.out _).mono ?_)); rintro e w' ⟨rfl, hb⟩; obtain ⟨g1, rfl⟩ := bout hb; clear hb)
          | (go_at_call 184; ((with_reducible refine (H1.out _ ?_).mono ?_)); rotate_left; rintro e w' ⟨rfl, hb⟩; obtain ⟨g2, rfl⟩ := bout hb; clear hb)
          | (go_at_call 184; ((with_reducible refine (H2.out _ ?_).mono ?_)); rotate_left; rintro e w' ⟨rfl, hb⟩; obtain ⟨g2, rfl⟩ := bout hb; clear hb))
          all_goals first
            | (go_ret; exact ⟨by rw [Hr.out]; rfl, by repeat (first | exact Below.refl _ _ | refine bG ?_ _ | refine bI ?_ _ _ | refine bA ?_ _)⟩)
            | exact HL.out _ (by repeat (first | exact Below.refl _ _ | refine bG ?_ _ | refine bI ?_ _ _ | refine bA ?_ _))
        | false =>
          have Hr : Hid (maskS s.data.toList = (S2.toList == s.toList)) := hid (by rw [Hr2.out, q1, Bool.false_or])
          clear Hr2
          go_enter Tryz.func185, Tryz.ntmps185
          go_wp2_with (first
          | (go_at_call 229; ((with_reducible refine (Htrim.out _).mono ?_)); rintro e w' ⟨rfl, rfl⟩)
          | (go_at_call 183; ((with_reducible refine (Hnum2.out _).mono ?_)); rintro e w' ⟨rfl, hb⟩; obtain ⟨g1, rfl⟩ := bout hb; clear hb)
          | (go_at_call 184; ((with_reducible refine (H1.out _ ?_).mono ?_)); rotate_left; rintro e w' ⟨rfl, hb⟩; obtain ⟨g2, rfl⟩ := bout hb; clear hb)
          | (go_at_call 184; ((with_reducible refine (H2.out _ ?_).mono ?_)); rotate_left; rintro e w' ⟨rfl, hb⟩; obtain ⟨g2, rfl⟩ := bout hb; clear hb))
          all_goals first
            | (go_ret; exact ⟨by rw [Hr.out]; rfl, by repeat (first | exact Below.refl _ _ | refine bG ?_ _ | refine bI ?_ _ _ | refine bA ?_ _)⟩)
            | exact HL.out _ (by repeat (first | exact Below.refl _ _ | refine bG ?_ _ | refine bI ?_ _ _ | refine bA ?_ _))
      · have Hr2 : Hid (maskS s.data.toList = (S1.toList == s.toList)) := hid (by rw [Hr.out, decide_eq_false hz, Bool.false_and, Bool.or_false])
        have hz2 : decide (0 < z) = false := decide_eq_false hz
        clear Hr H2 z0 z1 hz
        cases q1 : (S1.toList == s.toList) with
        | true =>
          have Hr : Hid (maskS s.data.toList = true) := hid (by rw [Hr2.out, q1])
          clear Hr2
          go_enter Tryz.func185, Tryz.ntmps185
          go_wp2_with (first
          | (go_at_call 229; ((with_reducible refine (Htrim.out _).mono ?_)); rintro e w' ⟨rfl, rfl⟩)
          | (go_at_call 183; ((with_reducible refine (Hnum2.out _).mono ?_)); rintro e w' ⟨rfl, hb⟩; obtain ⟨g1, rfl⟩ := bout hb; clear hb)
          | (go_at_call 184; ((with_reducible refine (H1.out _ ?_).mono ?_)); rotate_left; rintro e w' ⟨rfl, hb⟩; obtain ⟨g2, rfl⟩ := bout hb; clear hb))
          all_goals first
            | (go_ret; exact ⟨by rw [Hr.out]; rfl, by repeat (first | exact Below.refl _ _ | refine bG ?_ _ | refine bI ?_ _ _ | refine bA ?_ _)⟩)
            | exact HL.out _ (by repeat (first | exact Below.refl _ _ | refine bG ?_ _ | refine bI ?_ _ _ | refine bA ?_ _))
        | false =>
          have Hr : Hid (maskS s.data.toList = false) := hid (by rw [Hr2.out, q1])
          clear Hr2
          go_enter Tryz.func185, Tryz.ntmps185
          go_wp2_with (first
          | (go_at_call 229; ((with_reducible refine (Htrim.out _).mono ?_)); rintro e w' ⟨rfl, rfl⟩)
          | (go_at_call 183; ((with_reducible refine (Hnum2.out _).mono ?_)); rintro e w' ⟨rfl, hb⟩; obtain ⟨g1, rfl⟩ := bout hb; clear hb)
          | (go_at_call 184; ((with_reducible refine (H1.out _ ?_).mono ?_)); rotate_left; rintro e w' ⟨rfl, hb⟩; obtain ⟨g2, rfl⟩ := bout hb; clear hb))
          all_goals first
            | (go_ret; exact ⟨by rw [Hr.out]; rfl, by repeat (first | exact Below.refl _ _ | refine bG ?_ _ | refine bI ?_ _ _ | refine bA ?_ _)⟩)
            | exact HL.out _ (by repeat (first | exact Below.refl _ _ | refine bG ?_ _ | refine bI ?_ _ _ | refine bA ?_ _))
end Go.Proofs.YtjchnliaglecoaaGreatDoor

/- The reference's masks, walked. Conditions: the library's variables; short texts. -/
namespace Go.Proofs.YtjchnliaglecoaaGreatDoor
open Go Go.RowKit
set_option linter.unusedVariables false
set_option linter.unusedSimpArgs false
def MaskPost (b : Bool) (w : World) (e : Ending) (w' : World) : Prop := (∃ z : Int, e = .returned (.tuple #[.int .i64 z, .bool b])) ∧ Below w.heap.size w w'
/-- Behind the minus: what is read, and whether it is shown so. -/
def rmaskT (minus : Bool) (t : List UInt8) : Bool := match numS t with
  | none => false
  | some n => decide (Lib.itoa (wrap64 n) = t) && !(minus && decide (wrap64 n = 0))
def rmaskS (l : List UInt8) : Bool := if l = minL then true else if l.head? = some 45 then rmaskT true l.tail else rmaskT false l
theorem not_min {s : ByteArray} (h0 : s.data.toList ≠ minL) : (s.toList == [45, 57, 50, 50, 51, 51, 55, 50, 48, 51, 54, 56, 53, 52, 55, 55, 53, 56, 48, 56]) = false := by
  rw [ByteArray.toList_eq]
  cases e : s.data.toList == minL with
  | true => exact absurd (eq_of_beq e) h0
  | false => exact e
theorem is_min {s : ByteArray} (h0 : s.data.toList = minL) : (s.toList == [45, 57, 50, 50, 51, 51, 55, 50, 48, 51, 54, 56, 53, 52, 55, 55, 53, 56, 48, 56]) = true := by
  rw [ByteArray.toList_eq, h0]; exact beq_self_eq_true minL
theorem rmask_min (s : ByteArray) (h0 : s.data.toList = minL) (w : World) : Calls Tryz.prog 116 #[.string s] w (MaskPost true w) := by
  have h1 := is_min h0
  clear h0
  go_enter Tryz.func116, Tryz.ntmps116
  go_wp2
  go_ret2
  exact ⟨⟨_, rfl⟩, Below.refl _ _⟩
set_option maxRecDepth 10000 in
set_option maxHeartbeats 1000000 in
theorem rmask_minus (s : ByteArray) (hs : s.size ≤ 100000) (h0 : s.data.toList ≠ minL) (t : ByteArray) (ht : s.data.toList = 45 :: t.data.toList) (w : World) (hl : Lib0 w) :
    Calls Tryz.prog 116 #[.string s] w (MaskPost (rmaskT true t.data.toList) w) := by
  have h1 := not_min h0
  have hln : s.data.toList.length = s.size := by simp
  have htn : t.data.toList.length = t.size := by simp
  have hts : t.size + 1 = s.size := by rw [ht] at hln; simp only [List.length_cons] at hln; omega
  have hpos : 0 < s.size := by omega
  have hb0 : (s[0]'hpos).toNat = 45 := by
    have : s.data.toList[0]'(by rw [hln]; exact hpos) = 45 := by simp [ht]
    have h2 : s[0]'hpos = s.data.toList[0]'(by rw [hln]; exact hpos) := by simp [ByteArray.getElem_eq_getElem_data]
    rw [h2, this]; rfl
  have hext : s.extract 1 s.size = t := by
    apply bytes_inj2
    rw [extract_drop, ht]; rfl
  have h2 : (1 : Int) ≤ (s.size : Int) := by omega
  have h3 : (0 : Int) < (s.size : Int) := by omega
  have Hnum : Hid (∀ w, Calls Tryz.prog 117 #[.string t] w fun e w' => e = .returned (numV (numS t.data.toList)) ∧ Below w.heap.size w w') := hid (fun w => rnumber_any t (by omega) w)
  have HL : Hid (∀ w', Below w.heap.size w w' → Lib0 w') := hid fun w' h => hl.later h
  clear hl h0 ht hln htn hts
  cases ho : numS t.data.toList with
  | none =>
    rw [ho] at Hnum
    have Hnum2 : Hid (∀ w, Calls Tryz.prog 117 #[.string t] w fun e w' => e = .returned (.tuple #[.int .i64 0, .bool false]) ∧ Below w.heap.size w w') := Hnum
    have Hr : Hid (rmaskT true t.data.toList = false) := hid (by unfold rmaskT; rw [ho])
    clear Hnum ho
    go_enter Tryz.func116, Tryz.ntmps116
    go_wp2_with (go_at_call 117; ((with_reducible refine (Hnum2.out _).mono ?_)); rintro e w' ⟨rfl, hb⟩; obtain ⟨g1, rfl⟩ := bout hb; clear hb)
    go_ret2
    exact ⟨⟨_, by rw [Hr.out]; rfl⟩, by repeat (first | exact Below.refl _ _ | refine bG ?_ _ | refine bI ?_ _ _ | refine bA ?_ _)⟩
  | some n =>
    have Hnum2 : Hid (∀ w, Calls Tryz.prog 117 #[.string t] w fun e w' => e = .returned (.tuple #[.int .i64 (wrap64 n), .bool true]) ∧ Below w.heap.size w w') := by rw [ho] at Hnum; exact Hnum
    have hr : rmaskT true t.data.toList = (decide (Lib.itoa (wrap64 n) = t.data.toList) && !(true && decide (wrap64 n = 0))) := by unfold rmaskT; rw [ho]
    have z0 := wrap64_lo (n : Int)
    have z1 := wrap64_hi (n : Int)
    clear Hnum ho
    generalize wrap64 (n : Int) = z at *
    obtain ⟨S1, hS1⟩ : ∃ S : ByteArray, S = ⟨(Lib.itoa z).toArray⟩ := ⟨_, rfl⟩
    have H1 : Hid (∀ w, Lib0 w → Calls Tryz.prog 107 #[.int .i64 z] w fun e w' => e = .returned (.string S1) ∧ Below w.heap.size w w') := hid (by rw [hS1]; exact fun w h => rshow_any z z0 z1 w h)
    have e1 : decide (Lib.itoa z = t.data.toList) = (S1.toList == t.toList) := by
      rw [ByteArray.toList_eq, ByteArray.toList_eq, hS1]; exact (Bool.beq_eq_decide_eq _ _).symm
    have e2 : decide (z = 0) = (z == 0) := (Bool.beq_eq_decide_eq _ _).symm
    rw [e1, e2] at hr
    have Hr := hid hr
    clear hr hS1 e1 e2 z0 z1
    cases q1 : (S1.toList == t.toList) with
    | false =>
      have q2 : (S1.toList != t.toList) = true := by rw [bne, q1]; rfl
      have Hr2 : Hid (rmaskT true t.data.toList = false) := hid (by rw [Hr.out, q1, Bool.false_and])
      clear Hr
      go_enter Tryz.func116, Tryz.ntmps116
      go_wp2_with (first
        | (go_at_call 117; ((with_reducible refine (Hnum2.out _).mono ?_)); rintro e w' ⟨rfl, hb⟩; obtain ⟨g1, rfl⟩ := bout hb; clear hb)
        | (go_at_call 107; ((with_reducible refine (H1.out _ ?_).mono ?_)); rotate_left; rintro e w' ⟨rfl, hb⟩; obtain ⟨g2, rfl⟩ := bout hb; clear hb))
      all_goals first
        | (go_ret2; exact ⟨⟨_, by rw [Hr2.out]; rfl⟩, by repeat (first | exact Below.refl _ _ | refine bG ?_ _ | refine bI ?_ _ _ | refine bA ?_ _)⟩)
        | exact HL.out _ (by repeat (first | exact Below.refl _ _ | refine bG ?_ _ | refine bI ?_ _ _ | refine bA ?_ _))
    | true =>
      have q2 : (S1.toList != t.toList) = false := by rw [bne, q1]; rfl
      cases q3 : (z == 0) with
      | true =>
        have Hr2 : Hid (rmaskT true t.data.toList = false) := hid (by rw [Hr.out, q1, q3]; rfl)
        clear Hr
        go_enter Tryz.func116, Tryz.ntmps116
        go_wp2_with (first
          | (go_at_call 117; ((with_reducible refine (Hnum2.out _).mono ?_)); rintro e w' ⟨rfl, hb⟩; obtain ⟨g1, rfl⟩ := bout hb; clear hb)
          | (go_at_call 107; ((with_reducible refine (H1.out _ ?_).mono ?_)); rotate_left; rintro e w' ⟨rfl, hb⟩; obtain ⟨g2, rfl⟩ := bout hb; clear hb))
        all_goals first
          | (go_ret2; exact ⟨⟨_, by rw [Hr2.out]; rfl⟩, by repeat (first | exact Below.refl _ _ | refine bG ?_ _ | refine bI ?_ _ _ | refine bA ?_ _)⟩)
          | exact HL.out _ (by repeat (first | exact Below.refl _ _ | refine bG ?_ _ | refine bI ?_ _ _ | refine bA ?_ _))
      | false =>
        have Hr2 : Hid (rmaskT true t.data.toList = true) := hid (by rw [Hr.out, q1, q3]; rfl)
        clear Hr
        go_enter Tryz.func116, Tryz.ntmps116
        go_wp2_with (first
          | (go_at_call 117; ((with_reducible refine (Hnum2.out _).mono ?_)); rintro e w' ⟨rfl, hb⟩; obtain ⟨g1, rfl⟩ := bout hb; clear hb)
          | (go_at_call 107; ((with_reducible refine (H1.out _ ?_).mono ?_)); rotate_left; rintro e w' ⟨rfl, hb⟩; obtain ⟨g2, rfl⟩ := bout hb; clear hb))
        all_goals first
          | (go_ret2; exact ⟨⟨_, by rw [Hr2.out]; rfl⟩, by repeat (first | exact Below.refl _ _ | refine bG ?_ _ | refine bI ?_ _ _ | refine bA ?_ _)⟩)
          | exact HL.out _ (by repeat (first | exact Below.refl _ _ | refine bG ?_ _ | refine bI ?_ _ _ | refine bA ?_ _))
set_option maxRecDepth 10000 in
set_option maxHeartbeats 1000000 in
theorem rmask_plain0 (s : ByteArray) (hs : s.size ≤ 100000) (h0 : s.data.toList ≠ minL) (hz : (s.size : Int) ≤ 0) (w : World) (hl : Lib0 w) :
    Calls Tryz.prog 116 #[.string s] w (MaskPost (rmaskT false s.data.toList) w) := by
  have h1 := not_min h0
  have Hnum : Hid (∀ w, Calls Tryz.prog 117 #[.string s] w fun e w' => e = .returned (numV (numS s.data.toList)) ∧ Below w.heap.size w w') := hid (fun w => rnumber_any s (by omega) w)
  have HL : Hid (∀ w', Below w.heap.size w w' → Lib0 w') := hid fun w' h => hl.later h
  clear hl h0
  cases ho : numS s.data.toList with
  | none =>
    rw [ho] at Hnum
    have Hnum2 : Hid (∀ w, Calls Tryz.prog 117 #[.string s] w fun e w' => e = .returned (.tuple #[.int .i64 0, .bool false]) ∧ Below w.heap.size w w') := Hnum
    have Hr : Hid (rmaskT false s.data.toList = false) := hid (by unfold rmaskT; rw [ho])
    clear Hnum ho
    go_enter Tryz.func116, Tryz.ntmps116
    go_wp2_with (go_at_call 117; ((with_reducible refine (Hnum2.out _).mono ?_)); rintro e w' ⟨rfl, hb⟩; obtain ⟨g1, rfl⟩ := bout hb; clear hb)
    go_ret2
    exact ⟨⟨_, by rw [Hr.out]; rfl⟩, by repeat (first | exact Below.refl _ _ | refine bG ?_ _ | refine bI ?_ _ _ | refine bA ?_ _)⟩
  | some n =>
    have Hnum2 : Hid (∀ w, Calls Tryz.prog 117 #[.string s] w fun e w' => e = .returned (.tuple #[.int .i64 (wrap64 n), .bool true]) ∧ Below w.heap.size w w') := by rw [ho] at Hnum; exact Hnum
    have hr : rmaskT false s.data.toList = (decide (Lib.itoa (wrap64 n) = s.data.toList) && !(false && decide (wrap64 n = 0))) := by unfold rmaskT; rw [ho]
    have z0 := wrap64_lo (n : Int)
    have z1 := wrap64_hi (n : Int)
    clear Hnum ho
    generalize wrap64 (n : Int) = z at *
    obtain ⟨S1, hS1⟩ : ∃ S : ByteArray, S = ⟨(Lib.itoa z).toArray⟩ := ⟨_, rfl⟩
    have H1 : Hid (∀ w, Lib0 w → Calls Tryz.prog 107 #[.int .i64 z] w fun e w' => e = .returned (.string S1) ∧ Below w.heap.size w w') := hid (by rw [hS1]; exact fun w h => rshow_any z z0 z1 w h)
    have e1 : decide (Lib.itoa z = s.data.toList) = (S1.toList == s.toList) := by
      rw [ByteArray.toList_eq, ByteArray.toList_eq, hS1]; exact (Bool.beq_eq_decide_eq _ _).symm
    have e2 : decide (z = 0) = (z == 0) := (Bool.beq_eq_decide_eq _ _).symm
    rw [e1, e2] at hr
    have Hr := hid hr
    clear hr hS1 e1 e2 z0 z1
    cases q1 : (S1.toList == s.toList) with
    | false =>
      have q2 : (S1.toList != s.toList) = true := by rw [bne, q1]; rfl
      have Hr2 : Hid (rmaskT false s.data.toList = false) := hid (by rw [Hr.out, q1, Bool.false_and])
      clear Hr
      go_enter Tryz.func116, Tryz.ntmps116
      go_wp2_with (first
        | (go_at_call 117; ((with_reducible refine (Hnum2.out _).mono ?_)); rintro e w' ⟨rfl, hb⟩; obtain ⟨g1, rfl⟩ := bout hb; clear hb)
        | (go_at_call 107; ((with_reducible refine (H1.out _ ?_).mono ?_)); rotate_left; rintro e w' ⟨rfl, hb⟩; obtain ⟨g2, rfl⟩ := bout hb; clear hb))
      all_goals first
        | (go_ret2; exact ⟨⟨_, by rw [Hr2.out]; rfl⟩, by repeat (first | exact Below.refl _ _ | refine bG ?_ _ | refine bI ?_ _ _ | refine bA ?_ _)⟩)
        | exact HL.out _ (by repeat (first | exact Below.refl _ _ | refine bG ?_ _ | refine bI ?_ _ _ | refine bA ?_ _))
    | true =>
      have q2 : (S1.toList != s.toList) = false := by rw [bne, q1]; rfl
      cases q3 : (z == 0) with
      | true =>
        have Hr2 : Hid (rmaskT false s.data.toList = true) := hid (by rw [Hr.out, q1, q3]; rfl)
        clear Hr
        go_enter Tryz.func116, Tryz.ntmps116
        go_wp2_with (first
          | (go_at_call 117; ((with_reducible refine (Hnum2.out _).mono ?_)); rintro e w' ⟨rfl, hb⟩; obtain ⟨g1, rfl⟩ := bout hb; clear hb)
          | (go_at_call 107; ((with_reducible refine (H1.out _ ?_).mono ?_)); rotate_left; rintro e w' ⟨rfl, hb⟩; obtain ⟨g2, rfl⟩ := bout hb; clear hb))
        all_goals first
          | (go_ret2; exact ⟨⟨_, by rw [Hr2.out]; rfl⟩, by repeat (first | exact Below.refl _ _ | refine bG ?_ _ | refine bI ?_ _ _ | refine bA ?_ _)⟩)
          | exact HL.out _ (by repeat (first | exact Below.refl _ _ | refine bG ?_ _ | refine bI ?_ _ _ | refine bA ?_ _))
      | false =>
        have Hr2 : Hid (rmaskT false s.data.toList = true) := hid (by rw [Hr.out, q1, q3]; rfl)
        clear Hr
        go_enter Tryz.func116, Tryz.ntmps116
        go_wp2_with (first
          | (go_at_call 117; ((with_reducible refine (Hnum2.out _).mono ?_)); rintro e w' ⟨rfl, hb⟩; obtain ⟨g1, rfl⟩ := bout hb; clear hb)
          | (go_at_call 107; ((with_reducible refine (H1.out _ ?_).mono ?_)); rotate_left; rintro e w' ⟨rfl, hb⟩; obtain ⟨g2, rfl⟩ := bout hb; clear hb))
        all_goals first
          | (go_ret2; exact ⟨⟨_, by rw [Hr2.out]; rfl⟩, by repeat (first | exact Below.refl _ _ | refine bG ?_ _ | refine bI ?_ _ _ | refine bA ?_ _)⟩)
          | exact HL.out _ (by repeat (first | exact Below.refl _ _ | refine bG ?_ _ | refine bI ?_ _ _ | refine bA ?_ _))
set_option maxRecDepth 10000 in
set_option maxHeartbeats 1000000 in
theorem rmask_plain1 (s : ByteArray) (hs : s.size ≤ 100000) (h0 : s.data.toList ≠ minL) (hz : (1 : Int) ≤ (s.size : Int)) (hpos : 0 < s.size) (c : Nat) (hc : (s[0]'hpos).toNat = c) (hc2 : ((c : Int) == 45) = false) (w : World) (hl : Lib0 w) :
    Calls Tryz.prog 116 #[.string s] w (MaskPost (rmaskT false s.data.toList) w) := by
  have h1 := not_min h0
  have h3 : (0 : Int) < (s.size : Int) := by omega
  have Hnum : Hid (∀ w, Calls Tryz.prog 117 #[.string s] w fun e w' => e = .returned (numV (numS s.data.toList)) ∧ Below w.heap.size w w') := hid (fun w => rnumber_any s (by omega) w)
  have HL : Hid (∀ w', Below w.heap.size w w' → Lib0 w') := hid fun w' h => hl.later h
  clear hl h0
  cases ho : numS s.data.toList with
  | none =>
    rw [ho] at Hnum
    have Hnum2 : Hid (∀ w, Calls Tryz.prog 117 #[.string s] w fun e w' => e = .returned (.tuple #[.int .i64 0, .bool false]) ∧ Below w.heap.size w w') := Hnum
    have Hr : Hid (rmaskT false s.data.toList = false) := hid (by unfold rmaskT; rw [ho])
    clear Hnum ho
    go_enter Tryz.func116, Tryz.ntmps116
    go_wp2_with (go_at_call 117; ((with_reducible refine (Hnum2.out _).mono ?_)); rintro e w' ⟨rfl, hb⟩; obtain ⟨g1, rfl⟩ := bout hb; clear hb)
    go_ret2
    exact ⟨⟨_, by rw [Hr.out]; rfl⟩, by repeat (first | exact Below.refl _ _ | refine bG ?_ _ | refine bI ?_ _ _ | refine bA ?_ _)⟩
  | some n =>
    have Hnum2 : Hid (∀ w, Calls Tryz.prog 117 #[.string s] w fun e w' => e = .returned (.tuple #[.int .i64 (wrap64 n), .bool true]) ∧ Below w.heap.size w w') := by rw [ho] at Hnum; exact Hnum
    have hr : rmaskT false s.data.toList = (decide (Lib.itoa (wrap64 n) = s.data.toList) && !(false && decide (wrap64 n = 0))) := by unfold rmaskT; rw [ho]
    have z0 := wrap64_lo (n : Int)
    have z1 := wrap64_hi (n : Int)
    clear Hnum ho
    generalize wrap64 (n : Int) = z at *
    obtain ⟨S1, hS1⟩ : ∃ S : ByteArray, S = ⟨(Lib.itoa z).toArray⟩ := ⟨_, rfl⟩
    have H1 : Hid (∀ w, Lib0 w → Calls Tryz.prog 107 #[.int .i64 z] w fun e w' => e = .returned (.string S1) ∧ Below w.heap.size w w') := hid (by rw [hS1]; exact fun w h => rshow_any z z0 z1 w h)
    have e1 : decide (Lib.itoa z = s.data.toList) = (S1.toList == s.toList) := by
      rw [ByteArray.toList_eq, ByteArray.toList_eq, hS1]; exact (Bool.beq_eq_decide_eq _ _).symm
    have e2 : decide (z = 0) = (z == 0) := (Bool.beq_eq_decide_eq _ _).symm
    rw [e1, e2] at hr
    have Hr := hid hr
    clear hr hS1 e1 e2 z0 z1
    cases q1 : (S1.toList == s.toList) with
    | false =>
      have q2 : (S1.toList != s.toList) = true := by rw [bne, q1]; rfl
      have Hr2 : Hid (rmaskT false s.data.toList = false) := hid (by rw [Hr.out, q1, Bool.false_and])
      clear Hr
      go_enter Tryz.func116, Tryz.ntmps116
      go_wp2_with (first
        | (go_at_call 117; ((with_reducible refine (Hnum2.out _).mono ?_)); rintro e w' ⟨rfl, hb⟩; obtain ⟨g1, rfl⟩ := bout hb; clear hb)
        | (go_at_call 107; ((with_reducible refine (H1.out _ ?_).mono ?_)); rotate_left; rintro e w' ⟨rfl, hb⟩; obtain ⟨g2, rfl⟩ := bout hb; clear hb))
      all_goals first
        | (go_ret2; exact ⟨⟨_, by rw [Hr2.out]; rfl⟩, by repeat (first | exact Below.refl _ _ | refine bG ?_ _ | refine bI ?_ _ _ | refine bA ?_ _)⟩)
        | exact HL.out _ (by repeat (first | exact Below.refl _ _ | refine bG ?_ _ | refine bI ?_ _ _ | refine bA ?_ _))
    | true =>
      have q2 : (S1.toList != s.toList) = false := by rw [bne, q1]; rfl
      cases q3 : (z == 0) with
      | true =>
        have Hr2 : Hid (rmaskT false s.data.toList = true) := hid (by rw [Hr.out, q1, q3]; rfl)
        clear Hr
        go_enter Tryz.func116, Tryz.ntmps116
        go_wp2_with (first
          | (go_at_call 117; ((with_reducible refine (Hnum2.out _).mono ?_)); rintro e w' ⟨rfl, hb⟩; obtain ⟨g1, rfl⟩ := bout hb; clear hb)
          | (go_at_call 107; ((with_reducible refine (H1.out _ ?_).mono ?_)); rotate_left; rintro e w' ⟨rfl, hb⟩; obtain ⟨g2, rfl⟩ := bout hb; clear hb))
        all_goals first
          | (go_ret2; exact ⟨⟨_, by rw [Hr2.out]; rfl⟩, by repeat (first | exact Below.refl _ _ | refine bG ?_ _ | refine bI ?_ _ _ | refine bA ?_ _)⟩)
          | exact HL.out _ (by repeat (first | exact Below.refl _ _ | refine bG ?_ _ | refine bI ?_ _ _ | refine bA ?_ _))
      | false =>
        have Hr2 : Hid (rmaskT false s.data.toList = true) := hid (by rw [Hr.out, q1, q3]; rfl)
        clear Hr
        go_enter Tryz.func116, Tryz.ntmps116
        go_wp2_with (first
          | (go_at_call 117; ((with_reducible refine (Hnum2.out _).mono ?_)); rintro e w' ⟨rfl, hb⟩; obtain ⟨g1, rfl⟩ := bout hb; clear hb)
          | (go_at_call 107; ((with_reducible refine (H1.out _ ?_).mono ?_)); rotate_left; rintro e w' ⟨rfl, hb⟩; obtain ⟨g2, rfl⟩ := bout hb; clear hb))
        all_goals first
          | (go_ret2; exact ⟨⟨_, by rw [Hr2.out]; rfl⟩, by repeat (first | exact Below.refl _ _ | refine bG ?_ _ | refine bI ?_ _ _ | refine bA ?_ _)⟩)
          | exact HL.out _ (by repeat (first | exact Below.refl _ _ | refine bG ?_ _ | refine bI ?_ _ _ | refine bA ?_ _))
end Go.Proofs.YtjchnliaglecoaaGreatDoor

/- Both read masks alike. Conditions: short texts. -/
namespace Go.Proofs.YtjchnliaglecoaaGreatDoor
open Go Go.RowKit
set_option linter.unusedVariables false
theorem decDigits_dig (n : Nat) : ∀ b ∈ Lib.decDigits n, 48 ≤ b.toNat ∧ b.toNat ≤ 57 := by
  induction n using Nat.strongRecOn with
  | _ n ih =>
    intro b hb
    unfold Lib.decDigits at hb
    split at hb
    · rename_i h
      rw [List.mem_singleton] at hb
      subst hb
      have : (UInt8.ofNat (48 + n)).toNat = (48 + n) % 256 := rfl
      omega
    · rename_i h
      rcases List.mem_append.1 hb with hb | hb
      · exact ih (n / 10) (by omega) b hb
      · rw [List.mem_singleton] at hb
        subst hb
        have : (UInt8.ofNat (48 + n % 10)).toNat = (48 + n % 10) % 256 := rfl
        omega
theorem decDigits_ne (n : Nat) : Lib.decDigits n ≠ [] := by
  unfold Lib.decDigits
  split <;> simp
theorem itoa_nn {z : Int} (h : 0 ≤ z) : Lib.itoa z = Lib.decDigits z.natAbs := by
  unfold Lib.itoa
  rw [if_neg (by omega)]
  congr 1; omega
theorem itoa_ng {z : Int} (h : z < 0) : Lib.itoa z = 45 :: Lib.decDigits z.natAbs := by
  unfold Lib.itoa
  rw [if_pos h]
theorem dig_not45 {n : Nat} {t : List UInt8} (h : Lib.decDigits n = 45 :: t) : False := by
  have := decDigits_dig n 45 (by rw [h]; exact List.mem_cons_self)
  simp at this
theorem decF_le : ∀ (l : List UInt8) (n m : Nat), n ≤ 9223372036854775807 → decF l n = some m → m ≤ 9223372036854775807
  | [], n, m, h, h2 => by simp [decF] at h2; omega
  | b :: l, n, m, h, h2 => by
    unfold decF at h2
    split at h2
    · cases h2
    · exact decF_le l _ m (by omega) h2
theorem numS_nonneg {l : List UInt8} (hl : ∀ b ∈ l, 48 ≤ b.toNat ∧ b.toNat ≤ 57) {n : Nat} (h : numS l = some n) : n ≤ 9223372036854775807 := by
  unfold numS at h
  split at h
  · rename_i h2
    have : (120 : UInt8) ∈ l := by
      have h3 : (120 : UInt8) ∈ l.take 2 := by rw [h2.2]; simp
      exact List.mem_of_mem_take h3
    have := hl 120 this
    simp at this
  · split at h
    · cases h
    · exact decF_le _ _ _ (by omega) h
theorem numS_45 (t : List UInt8) : numS (45 :: t) = none := by
  unfold numS
  rw [if_neg (by simp), if_neg (by simp)]
  unfold decF
  rw [if_pos (by left; decide)]
theorem mask_eq (l : List UInt8) : maskS l = rmaskS l := by
  unfold maskS rmaskS
  by_cases hm : l = minL
  · rw [if_pos hm, if_pos hm]
  · rw [if_neg hm, if_neg hm]
    by_cases h45 : ∃ t, l = 45 :: t
    · obtain ⟨t, rfl⟩ := h45
      have ht : Lib.trimPrefix (45 :: t) [45] = t := by simp [Lib.trimPrefix, Lib.hasPrefix]
      rw [ht, if_pos List.head?_cons]
      simp only [rmaskT, List.tail_cons]
      cases ho : numS t with
      | none => rfl
      | some n =>
        simp only [Bool.true_and]
        have z1 := wrap64_hi (n : Int)
        have hw : n ≤ 9223372036854775807 → wrap64 (n : Int) = n := fun h => IntWalk.wrap64_in _ (by omega)
        generalize hz : wrap64 (n : Int) = z at *
        rw [Bool.eq_iff_iff]
        simp only [Bool.or_eq_true, Bool.and_eq_true, decide_eq_true_eq, Bool.not_eq_true', decide_eq_false_iff_not]
        constructor
        · rintro (h | ⟨h0, h⟩)
          · exfalso
            by_cases hz0 : z < 0
            · rw [itoa_ng hz0] at h
              have h2 := (List.cons.inj h).2
              have := numS_nonneg (l := t) (fun b hb => decDigits_dig _ b (by rw [h2]; exact hb)) ho
              have := hw this
              omega
            · rw [itoa_nn (by omega)] at h
              exact dig_not45 h
          · rw [itoa_ng (by omega)] at h
            have h2 := (List.cons.inj h).2
            refine ⟨?_, by omega⟩
            apply decide_eq_true
            have h5 : Lib.itoa z = Lib.decDigits z.natAbs := itoa_nn (by omega)
            have h6 : (-z).natAbs = z.natAbs := Int.natAbs_neg z
            exact h5.trans (by rw [← h6]; exact h2)
        · rintro ⟨h, h0⟩
          have h := of_decide_eq_true h
          by_cases hz0 : z < 0
          · exfalso
            rw [itoa_ng hz0] at h
            rw [← h, numS_45] at ho
            cases ho
          · right
            refine ⟨by omega, ?_⟩
            rw [itoa_ng (by omega), ← h, itoa_nn (by omega), Int.natAbs_neg]
    · have ht : Lib.trimPrefix l [45] = l := by
        unfold Lib.trimPrefix Lib.hasPrefix
        cases l with
        | nil => rfl
        | cons b l =>
          rw [if_neg]
          intro h
          rw [List.isPrefixOf_cons_cons, Bool.and_eq_true] at h
          exact h45 ⟨l, by rw [← eq_of_beq h.1]⟩
      rw [ht]
      rw [if_neg (fun h => by
        cases l with
        | nil => cases h
        | cons b t => exact h45 ⟨t, by simp at h; rw [h]⟩)]
      simp only [rmaskT]
      cases ho : numS l with
      | none => rfl
      | some n =>
        simp only [Bool.false_and, Bool.not_false, Bool.and_true]
        rw [Bool.eq_iff_iff]
        simp only [Bool.or_eq_true, Bool.and_eq_true, decide_eq_true_eq]
        constructor
        · rintro (h | ⟨h0, h⟩)
          · exact h
          · rw [itoa_ng (by omega)] at h
            exact absurd ⟨_, h.symm⟩ h45
        · exact .inl
theorem rmask_any (s : ByteArray) (hs : s.size ≤ 100000) (w : World) (hl : Lib0 w) : Calls Tryz.prog 116 #[.string s] w (MaskPost (maskS s.data.toList) w) := by
  have hln : s.data.toList.length = s.size := by simp
  rw [mask_eq]
  unfold rmaskS
  by_cases hm : s.data.toList = minL
  · rw [if_pos hm]; exact rmask_min s hm w
  · rw [if_neg hm]
    cases h : s.data.toList with
    | nil =>
      have h5 := hln
      rw [h] at h5
      rw [if_neg (by simp)]
      have := rmask_plain0 s hs hm (by simp at h5; omega) w hl
      rw [h] at this
      exact this
    | cons b t =>
      have h5 := hln
      rw [h] at h5
      simp only [List.length_cons] at h5
      have hpos : 0 < s.size := by omega
      have hb : (s[0]'hpos).toNat = b.toNat := by
        have h2 : s[0]'hpos = s.data.toList[0]'(by rw [h]; simp) := by simp [ByteArray.getElem_eq_getElem_data]
        rw [h2]; simp [h]
      by_cases h45 : b = 45
      · subst h45
        have := rmask_minus s hs hm ⟨t.toArray⟩ (by simpa using h) w hl
        rw [if_pos List.head?_cons]
        simpa using this
      · have hc : ((b.toNat : Int) == 45) = false := by
          cases e : ((b.toNat : Int) == 45) with
          | false => rfl
          | true =>
            have := eq_of_beq e
            exact absurd (UInt8.toNat_inj.1 (by show b.toNat = 45; omega)) h45
        have := rmask_plain1 s hs hm (by omega) hpos b.toNat hb hc w hl
        rw [h] at this
        rw [if_neg (by simpa using h45)]
        exact this
end Go.Proofs.YtjchnliaglecoaaGreatDoor
