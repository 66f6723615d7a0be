/- The texts of channels, walked. Conditions: the library's variables; short texts. -/
import Derived.Test.YtbgjanmheagilaaGreatDoorSxX
set_option linter.unusedVariables false
set_option linter.unusedSimpArgs false
namespace Go.Proofs.YtbgjanmheagilaaGreatDoor
open Go Go.RowKit
set_option linter.unusedVariables false
set_option linter.unusedSimpArgs false
theorem index_blank (b : UInt8) (l : List UInt8) : Lib.index (b :: l) [32] = if b = 32 then 0 else if Lib.index l [32] == -1 then -1 else Lib.index l [32] + 1 := by
  show (if [32].isPrefixOf (b :: l) then 0 else if Lib.index l [32] == -1 then -1 else Lib.index l [32] + 1) = _
  by_cases h : b = 32
  · subst h; simp
  · rw [if_neg h, if_neg]
    intro h2
    rw [List.isPrefixOf_cons_cons, Bool.and_eq_true] at h2
    exact h (eq_of_beq h2.1).symm
theorem chan_cut (l : List UInt8) : ((Lib.cut l [32]).2.2 && chan1 (Lib.cut l [32]).1 && maskS (Lib.cut l [32]).2.1) = chanS l := by
  match l with
  | [] => rfl
  | [c] =>
    by_cases h : c = 32
    · subst h; rfl
    · have : Lib.index [c] [32] = -1 := by rw [index_blank, if_neg h]; rfl
      unfold Lib.cut
      rw [if_neg (by omega)]
      rfl
  | c :: d :: m =>
    by_cases h : c = 32
    · subst h
      have : Lib.index (32 :: d :: m) [32] = 0 := by rw [index_blank, if_pos rfl]
      have hl : ((Lib.cut (32 :: d :: m) [32]).2.2 && chan1 (Lib.cut (32 :: d :: m) [32]).1 && maskS (Lib.cut (32 :: d :: m) [32]).2.1) = false := by
        unfold Lib.cut
        rw [if_pos (by omega), this]
        rfl
      rw [hl]
      unfold chanS
      split
      · rename_i heq; cases heq; rfl
      · rfl
    · by_cases h2 : d = 32
      · subst h2
        have : Lib.index (c :: 32 :: m) [32] = 1 := by
          rw [index_blank, if_neg h, index_blank, if_pos rfl]; rfl
        unfold Lib.cut
        rw [if_pos (by omega), this]
        rfl
      · have hc : chanS (c :: d :: m) = false := by
          unfold chanS
          split
          · rename_i heq; cases heq; exact absurd rfl h2
          · rfl
        rw [hc]
        unfold Lib.cut
        split
        · rename_i hp
          have hge := Lib.index_ge m [32]
          have h3 : 2 ≤ Lib.index (c :: d :: m) [32] := by
            rw [index_blank, if_neg h, index_blank, if_neg h2] at hp ⊢
            generalize Lib.index m [32] = i at *
            by_cases hi : i = -1
            · subst hi; simp at hp
            · have e1 : (i == -1) = false := by simpa using hi
              have e2 : (i + 1 == -1) = false := by
                cases e : (i + 1 == -1) with
                | false => rfl
                | true => have := eq_of_beq e; omega
              simp only [e1, Bool.false_eq_true, if_false, e2] at hp ⊢
              omega
          have h4 : ∃ n, (Lib.index (c :: d :: m) [32]).toNat = n + 2 := ⟨(Lib.index (c :: d :: m) [32]).toNat - 2, by omega⟩
          obtain ⟨n, hn⟩ := h4
          rw [hn]
          rfl
        · rfl
set_option maxHeartbeats 1000000 in
set_option maxRecDepth 10000 in
theorem says_2 (s : ByteArray) (hs : s.size ≤ 100000) (kp : Option Addr) (nk kc : Nat) (at1 : Int) (w : World) (hl : Lib0 w) :
    Calls Tryz.prog 93 #[.agg #[.int .i64 2, .string s, .slice kp nk kc, .int .i64 at1]] w fun e w' => e = .returned (.bool (textS 2 s.data.toList nk)) ∧ Below w.heap.size w w' := by
  show Calls _ _ _ _ fun e w' => e = .returned (.bool (chanS s.data.toList)) ∧ Below w.heap.size w w'
  rw [← chan_cut]
  have hln : s.data.toList.length = s.size := by simp
  obtain ⟨A, hA⟩ : ∃ A : ByteArray, A = ⟨(Lib.cut s.data.toList [32]).1.toArray⟩ := ⟨_, rfl⟩
  obtain ⟨M, hM⟩ : ∃ M : ByteArray, M = ⟨(Lib.cut s.data.toList [32]).2.1.toArray⟩ := ⟨_, rfl⟩
  have hAd : A.data.toList = (Lib.cut s.data.toList [32]).1 := by rw [hA]
  have hMd : M.data.toList = (Lib.cut s.data.toList [32]).2.1 := by rw [hM]
  have hAs : A.size ≤ 100000 := by
    have h1 : A.data.toList.length = A.size := by simp
    rw [hAd] at h1
    unfold Lib.cut at h1
    split at h1
    · simp at h1; omega
    · simp only at h1; omega
  have hMs : M.size ≤ 100000 := by
    have h1 : M.data.toList.length = M.size := by simp
    rw [hMd] at h1
    unfold Lib.cut at h1
    split at h1
    · simp at h1; omega
    · simp at h1; omega
  have Hcut : Hid (∀ w', Below w.heap.size w w' → Calls Tryz.prog 129 #[.string s, .string ⟨#[32]⟩] w' fun e w2 => e = .returned (.tuple #[.string A, .string M, .bool (Lib.cut s.data.toList [32]).2.2]) ∧ Below w'.heap.size w' w2) := hid fun w' h => by
    obtain ⟨m, hm⟩ := (hl.later h).max
    rw [hA, hM]
    exact (Tryz.strings_Cut s ⟨#[32]⟩ m w' (by omega) hm).mono fun e w2 ⟨h1, n, h2⟩ => ⟨h1, by rw [h2]; exact bN (Below.refl _ _) n⟩
  have H1 : Hid (∀ w', Below w.heap.size w w' → Calls Tryz.prog 130 #[.string A] w' fun e w2 => e = .returned (.bool (chan1 (Lib.cut s.data.toList [32]).1)) ∧ Below w'.heap.size w' w2) := hid fun w' h => by
    have := channel_any A hAs w' (hl.later h)
    rwa [chan1_eq, hAd] at this
  have H2 : Hid (∀ w', Below w.heap.size w w' → Calls Tryz.prog 128 #[.string M] w' fun e w2 => e = .returned (.bool (maskS (Lib.cut s.data.toList [32]).2.1)) ∧ Below w'.heap.size w' w2) := hid fun w' h => by
    have := mask_any M hMs w' (hl.later h)
    rwa [hMd] at this
  clear hl hA hM hAd hMd hln
  generalize (Lib.cut s.data.toList [32]).2.2 = x at *
  generalize chan1 (Lib.cut s.data.toList [32]).1 = y at *
  generalize maskS (Lib.cut s.data.toList [32]).2.1 = z at *
  cases x
  all_goals cases y
  all_goals
    go_enter Tryz.func93, Tryz.ntmps93
    go_wp2_with (first
      | (go_at_call 129; ((with_reducible refine (Hcut.out _ ?_).mono ?_)); rotate_left; rintro e w' ⟨rfl, hb⟩; obtain ⟨g1, rfl⟩ := bout hb; clear hb)
      | (go_at_call 130; ((with_reducible refine (H1.out _ ?_).mono ?_)); rotate_left; rintro e w' ⟨rfl, hb⟩; obtain ⟨g1, rfl⟩ := bout hb; clear hb)
      | (go_at_call 128; ((with_reducible refine (H2.out _ ?_).mono ?_)); rotate_left; rintro e w' ⟨rfl, hb⟩; obtain ⟨g1, rfl⟩ := bout hb; clear hb))
    all_goals first
      | (go_ret; exact ⟨rfl, by repeat (first | exact Below.refl _ _ | refine bG ?_ _ | refine bI ?_ _ _ | refine bA ?_ _ | refine bD ?_ | refine bN ?_ _)⟩)
      | exact (by repeat (first | exact Below.refl _ _ | refine bG ?_ _ | refine bI ?_ _ _ | refine bA ?_ _ | refine bD ?_ | refine bN ?_ _))
end Go.Proofs.YtbgjanmheagilaaGreatDoor

/- The texts of channels, the reference's, walked. Conditions: the library's variables; short texts. -/
namespace Go.Proofs.YtbgjanmheagilaaGreatDoor
open Go Go.RowKit
set_option linter.unusedVariables false
set_option linter.unusedSimpArgs false
theorem maskS_nil : maskS [] = false := by decide +kernel
theorem chanS_short {l : List UInt8} (h : l.length < 3) : chanS l = false := by
  unfold chanS
  split
  · rename_i c m
    have : m = [] := by simp at h; exact List.eq_nil_of_length_eq_zero (by omega)
    subst this
    rw [maskS_nil, Bool.and_false]
  · rfl
set_option maxHeartbeats 1000000 in
set_option maxRecDepth 10000 in
theorem text_2 (s : ByteArray) (hs : s.size ≤ 100000) (kp : Option Addr) (nk kc : Nat) (at1 : Int) (w : World) (hl : Lib0 w) :
    Calls Tryz.prog 43 #[.agg #[.int .i64 2, .string s, .slice kp nk kc, .int .i64 at1]] w fun e w' => e = .returned (.bool (textS 2 s.data.toList nk)) ∧ Below w.heap.size w w' := by
  show Calls _ _ _ _ fun e w' => e = .returned (.bool (chanS s.data.toList)) ∧ Below w.heap.size w w'
  have hln : s.data.toList.length = s.size := by simp
  by_cases h3 : s.size < 3
  · have Hr := hid (chanS_short (l := s.data.toList) (by omega))
    have h4 : (s.size : Int) < 3 := by omega
    clear hl hln h3
    go_enter Tryz.func43, Tryz.ntmps43
    go_wp2
    go_ret
    exact ⟨by rw [Hr.out]; rfl, by repeat (first | exact Below.refl _ _ | refine bG ?_ _ | refine bI ?_ _ _ | refine bA ?_ _ | refine bD ?_ | refine bN ?_ _)⟩
  · obtain ⟨c, d, m, hcd⟩ : ∃ c d m, s.data.toList = c :: d :: m := by
      match h : s.data.toList with
      | [] => rw [h] at hln; simp at hln; omega
      | [c] => rw [h] at hln; simp at hln; omega
      | c :: d :: m => exact ⟨c, d, m, rfl⟩
    have h4 : (3 : Int) ≤ (s.size : Int) := by omega
    have hpos : 1 < s.size := by omega
    have hb1 : (s[1]'hpos).toNat = d.toNat := by
      have h2 : s[1]'hpos = s.data.toList[1]'(by rw [hln]; exact hpos) := by simp [ByteArray.getElem_eq_getElem_data]
      rw [h2]; simp [hcd]
    obtain ⟨A, hA⟩ : ∃ A : ByteArray, s.extract 0 1 = A := ⟨_, rfl⟩
    obtain ⟨M, hM⟩ : ∃ M : ByteArray, s.extract 2 s.size = M := ⟨_, rfl⟩
    have hAd : A.data.toList = [c] := by
      have := extract_take s 1 (by omega)
      rw [ByteArray.toList_eq, hA, hcd] at this
      exact this
    have hMd : M.data.toList = m := by rw [← hM, extract_drop, hcd]; rfl
    have hMs : M.size ≤ 100000 := by
      have h1 : M.data.toList.length = M.size := by simp
      rw [hMd] at h1
      rw [hcd] at hln
      simp at hln
      omega
    have H1 : Hid (∀ w', Below w.heap.size w w' → Calls Tryz.prog 72 #[.string A] w' fun e w2 => e = .returned (.bool (chan1 [c])) ∧ Below w'.heap.size w' w2) := hid fun w' h => by
      have := rchan_any A w'
      rwa [hAd] at this
    have H2 : Hid (∀ w', Below w.heap.size w w' → Calls Tryz.prog 73 #[.string M] w' (MaskPost (maskS m) w')) := hid fun w' h => by
      have := rmask_any M hMs w' (hl.later h)
      rwa [hMd] at this
    have h3' : ¬ (s.size : Int) < 3 := by omega
    by_cases h32 : d = 32
    · have hr : chanS s.data.toList = (chan1 [c] && maskS m) := by rw [hcd, h32]; rfl
      have hb2 : (s[1]'hpos).toNat = 32 := by rw [hb1, h32]; rfl
      have h5 : (2 : Int) ≤ (s.size : Int) := by omega
      have h6 : (1 : Int) ≤ (s.size : Int) := by omega
      have h7 : (1 : Int) < (s.size : Int) := by omega
      have Hr := hid hr
      clear hl hr hcd hAd hMd hb1 h3 h32 hln
      generalize chan1 [c] = x at *
      generalize maskS m = y at *
      cases x
      all_goals
        go_enter Tryz.func43, Tryz.ntmps43
        go_wp2_with (first
          | (go_at_call 72; ((with_reducible refine (H1.out _ ?_).mono ?_)); rotate_left; rintro e w' ⟨rfl, hb⟩; obtain ⟨g1, rfl⟩ := bout hb; clear hb)
          | (go_at_call 73; ((with_reducible refine (H2.out _ ?_).mono ?_)); rotate_left; rintro e w' ⟨⟨z, rfl⟩, hb⟩; obtain ⟨g1, rfl⟩ := bout hb; clear hb))
        all_goals first
          | (go_ret; exact ⟨by rw [Hr.out]; rfl, by repeat (first | exact Below.refl _ _ | refine bG ?_ _ | refine bI ?_ _ _ | refine bA ?_ _ | refine bD ?_ | refine bN ?_ _)⟩)
          | exact (by repeat (first | exact Below.refl _ _ | refine bG ?_ _ | refine bI ?_ _ _ | refine bA ?_ _ | refine bD ?_ | refine bN ?_ _))
    · have hr : chanS s.data.toList = false := by
        rw [hcd]
        unfold chanS
        split
        · rename_i heq; cases heq; exact absurd rfl h32
        · rfl
      have hb2 : ((d.toNat : Int) != 32) = true := by
        rw [bne_iff_ne]
        intro e
        exact h32 (UInt8.toNat_inj.1 (by show d.toNat = 32; omega))
      have h7 : (1 : Int) < (s.size : Int) := by omega
      have Hr := hid hr
      clear hl hr hcd hAd hMd h3 h32 hln
      generalize d.toNat = dn at *
      go_enter Tryz.func43, Tryz.ntmps43
      go_wp2
      go_ret
      exact ⟨by rw [Hr.out]; rfl, by repeat (first | exact Below.refl _ _ | refine bG ?_ _ | refine bI ?_ _ _ | refine bA ?_ _ | refine bD ?_ | refine bN ?_ _)⟩
end Go.Proofs.YtbgjanmheagilaaGreatDoor
