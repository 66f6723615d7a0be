/- The reference's names, walked. Conditions: short texts. -/
import Derived.Test.YtjchnliaglecoaaGreatDoorAw11X
set_option linter.unusedVariables false
set_option linter.unusedSimpArgs false
namespace Go.Proofs.YtjchnliaglecoaaGreatDoor
open Go Go.RowKit Go.WideMaps Go.Maps Go.ChangeShapes
set_option linter.unusedVariables false
set_option linter.unusedSimpArgs false
theorem word_tab : (wordsL.all fun l => okAt 129 [str l] (.bool true)) = true := by kernel_rfl
theorem not_word {l m : List UInt8} (h : l ∉ wordsL) (hm : m ∈ wordsL) : (l == m) = false := by
  cases e : l == m with
  | false => rfl
  | true => exact absurd (eq_of_beq e ▸ hm) h
set_option maxRecDepth 10000 in
theorem word_no (s : ByteArray) (h : s.data.toList ∉ wordsL) (w : World) : Calls Tryz.prog 129 #[.string s] w fun e w' => e = .returned (.bool false) ∧ Below w.heap.size w w' := by
  have h0 : (s.toList == [97, 110, 100]) = false := by rw [ByteArray.toList_eq]; exact not_word h (by decide)
  have h1 : (s.toList == [98, 114, 101, 97, 107]) = false := by rw [ByteArray.toList_eq]; exact not_word h (by decide)
  have h2 : (s.toList == [99, 104, 97, 110, 110, 101, 108]) = false := by rw [ByteArray.toList_eq]; exact not_word h (by decide)
  have h3 : (s.toList == [100, 111]) = false := by rw [ByteArray.toList_eq]; exact not_word h (by decide)
  have h4 : (s.toList == [101, 108, 115, 101]) = false := by rw [ByteArray.toList_eq]; exact not_word h (by decide)
  have h5 : (s.toList == [101, 108, 115, 101, 105, 102]) = false := by rw [ByteArray.toList_eq]; exact not_word h (by decide)
  have h6 : (s.toList == [101, 110, 100]) = false := by rw [ByteArray.toList_eq]; exact not_word h (by decide)
  have h7 : (s.toList == [102, 97, 108, 115, 101]) = false := by rw [ByteArray.toList_eq]; exact not_word h (by decide)
  have h8 : (s.toList == [102, 117, 110, 99, 116, 105, 111, 110]) = false := by rw [ByteArray.toList_eq]; exact not_word h (by decide)
  have h9 : (s.toList == [105, 102]) = false := by rw [ByteArray.toList_eq]; exact not_word h (by decide)
  have h10 : (s.toList == [108, 111, 99, 97, 108]) = false := by rw [ByteArray.toList_eq]; exact not_word h (by decide)
  have h11 : (s.toList == [110, 105, 108]) = false := by rw [ByteArray.toList_eq]; exact not_word h (by decide)
  have h12 : (s.toList == [110, 111, 116]) = false := by rw [ByteArray.toList_eq]; exact not_word h (by decide)
  have h13 : (s.toList == [111, 114]) = false := by rw [ByteArray.toList_eq]; exact not_word h (by decide)
  have h14 : (s.toList == [114, 101, 116, 117, 114, 110]) = false := by rw [ByteArray.toList_eq]; exact not_word h (by decide)
  have h15 : (s.toList == [116, 104, 101, 110]) = false := by rw [ByteArray.toList_eq]; exact not_word h (by decide)
  have h16 : (s.toList == [116, 114, 117, 101]) = false := by rw [ByteArray.toList_eq]; exact not_word h (by decide)
  have h17 : (s.toList == [119, 104, 105, 108, 101]) = false := by rw [ByteArray.toList_eq]; exact not_word h (by decide)
  clear h
  go_enter Tryz.func129, Tryz.ntmps129
  go_wp2
  go_ret
  exact ⟨rfl, Below.refl _ _⟩
theorem word_any (s : ByteArray) (w : World) : Calls Tryz.prog 129 #[.string s] w fun e w' => e = .returned (.bool (decide (s.data.toList ∈ wordsL))) ∧ Below w.heap.size w w' := by
  by_cases h : s.data.toList ∈ wordsL
  · have := okAt_calls (List.all_eq_true.1 word_tab _ h) w
    rw [decide_eq_true h]
    have e : s = ⟨s.data.toList.toArray⟩ := by simp
    rw [e]
    exact this
  · rw [decide_eq_false h]; exact word_no s h w
theorem letter_digit (c : Nat) (h : partS c = true) : letterS c = !digitsS c := by
  unfold partS at h
  cases hd : digitsS c with
  | false => rw [hd, Bool.or_false] at h; rw [h]; rfl
  | true =>
    unfold digitsS at hd
    simp only [Bool.and_eq_true, Nat.ble_eq] at hd
    unfold letterS
    have h1 : Nat.beq c 95 = false := by cases e : Nat.beq c 95 with
      | false => rfl
      | true => have := Nat.eq_of_beq_eq_true e; omega
    have h2 : Nat.ble 97 c = false := by cases e : Nat.ble 97 c with
      | false => rfl
      | true => have := Nat.le_of_ble_eq_true e; omega
    have h3 : Nat.ble 65 c = false := by cases e : Nat.ble 65 c with
      | false => rfl
      | true => have := Nat.le_of_ble_eq_true e; omega
    rw [h1, h2, h3]; rfl
theorem nameS_ref (b : UInt8) (t : List UInt8) : nameS (b :: t) = (letterS b.toNat && !decide (b :: t ∈ wordsL) && (b :: t).all (fun b => partS b.toNat)) := by
  show (!digitsS b.toNat && !decide (b :: t ∈ wordsL) && (b :: t).all (fun b => partS b.toNat)) = _
  cases h : (b :: t).all (fun b => partS b.toNat) with
  | false => rw [Bool.and_false, Bool.and_false]
  | true =>
    have := List.all_eq_true.1 h b List.mem_cons_self
    rw [letter_digit b.toNat this]
set_option maxRecDepth 10000 in
set_option maxHeartbeats 2000000 in
theorem rname_any (s : ByteArray) (hs : s.size ≤ 140737488355328) (w : World) :
    Calls Tryz.prog 79 #[.string s] w fun e w' => e = .returned (.bool (nameS s.data.toList)) ∧ Below w.heap.size w w' := by
  have hln : s.data.toList.length = s.size := by simp
  by_cases h0 : s.size = 0
  · have he : (s.toList == []) = true := by
      rw [ByteArray.toList_eq, List.eq_nil_of_length_eq_zero (show s.data.toList.length = 0 by omega)]; rfl
    have hn : nameS s.data.toList = false := by rw [List.eq_nil_of_length_eq_zero (show s.data.toList.length = 0 by omega)]; rfl
    have Hn := hid hn
    clear hn h0 hln
    go_enter Tryz.func79, Tryz.ntmps79
    go_wp2
    go_ret
    exact ⟨by rw [Hn.out]; rfl, Below.refl _ _⟩
  · obtain ⟨b, t, hbt⟩ : ∃ b t, s.data.toList = b :: t := by
      cases h : s.data.toList with
      | nil => rw [h] at hln; simp at hln; omega
      | cons b t => exact ⟨b, t, rfl⟩
    have he : (s.toList == []) = false := by rw [ByteArray.toList_eq, hbt]; rfl
    have h1 : (1 : Int) ≤ (s.size : Int) := by omega
    have hpos : 0 < s.size := by omega
    have hb0 : (s[0]'hpos).toNat = b.toNat := by
      have : s.data.toList[0]'(by rw [hln]; exact hpos) = b := by simp [hbt]
      rw [← this]; simp [ByteArray.getElem_eq_getElem_data]
    have hb256 := b.toNat_lt
    have Hln := hid hln
    have hname : nameS s.data.toList = (letterS b.toNat && !decide (s.data.toList ∈ wordsL) && s.data.toList.all (fun b => partS b.toNat)) := by
      rw [hbt]; exact nameS_ref b t
    have hw : ∃ x, x = decide (s.data.toList ∈ wordsL) := ⟨_, rfl⟩
    obtain ⟨x, hx⟩ := hw
    rw [← hx] at hname
    have Hword : Hid (∀ w, Calls Tryz.prog 129 #[.string s] w fun e w' => e = .returned (.bool x) ∧ Below w.heap.size w w') := hid (by rw [hx]; exact word_any s)
    clear hln h0 hbt hx
    generalize hbb : b.toNat = c at *
    clear hbb
    have Hname := hid hname
    clear hname
    cases hd : letterS c with
    | false =>
      have Hr : Hid (nameS s.data.toList = false) := hid (by rw [Hname.out, hd]; rfl)
      clear Hname
      go_enter Tryz.func79, Tryz.ntmps79
      go_wp2_with (go_at_call 128; ((with_reducible refine (letter_any c hb256 _).mono ?_)); rintro e w' ⟨rfl, hb⟩; obtain ⟨g1, rfl⟩ := bout hb; clear hb)
      go_ret
      exact ⟨by rw [Hr.out]; rfl, by repeat (first | exact Below.refl _ _ | refine bG ?_ _ | refine bI ?_ _ _ | refine bA ?_ _)⟩
    | true =>
      cases x with
      | true =>
        have Hr : Hid (nameS s.data.toList = false) := hid (by rw [Hname.out, hd]; rfl)
        clear Hname
        go_enter Tryz.func79, Tryz.ntmps79
        go_wp2_with (first
          | (go_at_call 128; ((with_reducible refine (letter_any c hb256 _).mono ?_)); rintro e w' ⟨rfl, hb⟩; obtain ⟨g1, rfl⟩ := bout hb; clear hb)
          | (go_at_call 129; ((with_reducible refine (Hword.out _).mono ?_)); rintro e w' ⟨rfl, hb⟩; obtain ⟨g1, rfl⟩ := bout hb; clear hb))
        go_ret
        exact ⟨by rw [Hr.out]; rfl, by repeat (first | exact Below.refl _ _ | refine bG ?_ _ | refine bI ?_ _ _ | refine bA ?_ _)⟩
      | false =>
        have Hr : Hid (nameS s.data.toList = s.data.toList.all (fun b => partS b.toNat)) := hid (by rw [Hname.out, hd]; rfl)
        clear Hname
        go_enter Tryz.func79, Tryz.ntmps79
        go_wp2_with (first
          | (go_at_call 128; ((with_reducible refine (letter_any c hb256 _).mono ?_)); rintro e w' ⟨rfl, hb⟩; obtain ⟨g1, rfl⟩ := bout hb; clear hb)
          | (go_at_call 129; ((with_reducible refine (Hword.out _).mono ?_)); rintro e w' ⟨rfl, hb⟩; obtain ⟨g1, rfl⟩ := bout hb; clear hb))
        go_loopw [3] (fun i wr => ∃ (k : Nat) (g : Gro), i = .int .i64 k ∧ wr = grow w g ∧ k ≤ s.size ∧ Hid ((s.data.toList.drop k).all (fun b => partS b.toNat) = nameS s.data.toList)) (fun i _ => s.size - (intOf i).toNat)
        case atStart => exact ⟨0, _, rfl, rfl, by omega, hid Hr.out.symm⟩
        case round =>
          obtain ⟨k, g, rfl, rfl, hk, hR⟩ := hrel
          clear Hr
          by_cases hlt : k < s.size
          · have hpl : k < s.data.toList.length := by rw [Hln.out]; exact hlt
            have hx := name_all_drop s.data.toList k hpl
            rw [hR.out] at hx
            have hbe : s.data.toList[k] = s[k] := by simp [ByteArray.getElem_eq_getElem_data]
            rw [hbe] at hx
            have hx256 : (s[k]).toNat < 256 := (s[k]).toNat_lt
            obtain ⟨x, hxx⟩ : ∃ x, (s[k]).toNat = x := ⟨_, rfl⟩
            rw [hxx] at hx hx256
            have Hx := hid hx
            have k0 : (0 : Int) ≤ (k : Int) := by omega
            have k1 : (k : Int) < (s.size : Int) := by omega
            clear hx hbe hR
            cases hp : partS x with
            | false =>
              have Hp : Hid (nameS s.data.toList = false) := hid (by rw [Hx.out, hp]; rfl)
              go_wp2_with (go_at_call 130; ((with_reducible refine (rpart_any x hx256 _).mono ?_)); rintro e w' ⟨rfl, hb⟩; obtain ⟨g3, rfl⟩ := bout hb; clear hb)
              go_ret
              exact ⟨by rw [Hp.out]; rfl, by repeat (first | exact Below.refl _ _ | refine bG ?_ _ | refine bI ?_ _ _ | refine bA ?_ _)⟩
            | true =>
              have Hp : Hid (nameS s.data.toList = (s.data.toList.drop (k + 1)).all (fun b => partS b.toNat)) := hid (by rw [Hx.out, hp]; rfl)
              go_wp2_with (go_at_call 130; ((with_reducible refine (rpart_any x hx256 _).mono ?_)); rintro e w' ⟨rfl, hb⟩; obtain ⟨g3, rfl⟩ := bout hb; clear hb)
              go_roundw
              case rel => exact ⟨k + 1, _, by go_num, rfl, by omega, hid Hp.out.symm⟩
              case measure => simp [intOf]; omega
          · have hx := hR.out
            rw [List.drop_eq_nil_of_le (by rw [Hln.out]; omega)] at hx
            have Hx := hid hx.symm
            have k1 : ¬ (k : Int) < (s.size : Int) := by omega
            clear hx hR
            go_wp2
            go_ret
            exact ⟨by rw [Hx.out]; rfl, by repeat (first | exact Below.refl _ _ | refine bG ?_ _ | refine bI ?_ _ _ | refine bA ?_ _)⟩
end Go.Proofs.YtjchnliaglecoaaGreatDoor
