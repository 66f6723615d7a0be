/- lex.words, walked. Conditions: the library's variables. -/
import Derived.Maps.Own
import Derived.Maps.OwnOps
import Derived.Maps.OwnSet
import Derived.Outline
import Derived.Test.YtjchnliaglecoaaGreatDoorLb
set_option linter.unusedVariables false
set_option linter.unusedSimpArgs false
namespace Go.Proofs.YtjchnliaglecoaaGreatDoor
open Go Go.RowKit Go.WideMaps Go.Maps Go.ChangeShapes
set_option linter.unusedVariables false
set_option linter.unusedSimpArgs false
/-- The words of the language. -/
def wordsL : List (List UInt8) := [[97, 110, 100], [98, 114, 101, 97, 107], [99, 104, 97, 110, 110, 101, 108], [100, 111], [101, 108, 115, 101], [101, 108, 115, 101, 105, 102], [101, 110, 100], [102, 97, 108, 115, 101], [102, 117, 110, 99, 116, 105, 111, 110], [105, 102], [108, 111, 99, 97, 108], [110, 105, 108], [110, 111, 116], [111, 114], [114, 101, 116, 117, 114, 110], [116, 104, 101, 110], [116, 114, 117, 101], [119, 104, 105, 108, 101]]
def wordsB : ByteArray := ⟨#[97, 110, 100, 32, 98, 114, 101, 97, 107, 32, 99, 104, 97, 110, 110, 101, 108, 32, 100, 111, 32, 101, 108, 115, 101, 32, 101, 108, 115, 101, 105, 102, 32, 101, 110, 100, 32, 102, 97, 108, 115, 101, 32, 102, 117, 110, 99, 116, 105, 111, 110, 32, 105, 102, 32, 108, 111, 99, 97, 108, 32, 110, 105, 108, 32, 110, 111, 116, 32, 111, 114, 32, 114, 101, 116, 117, 114, 110, 32, 116, 104, 101, 110, 32, 116, 114, 117, 101, 32, 119, 104, 105, 108, 101]⟩
theorem fieldsW : Lib.fields wordsB.data.toList = wordsL := by decide +kernel
theorem wordsB_ascii : ∀ (j : Nat) b, wordsB.data.toList[j]? = some b → b.toNat < 128 := fun j b h => by
  have : wordsB.data.toList.all (fun b => decide (b.toNat < 128)) = true := by decide +kernel
  exact of_decide_eq_true (List.all_eq_true.1 this b (List.mem_of_getElem? h))
theorem fields_words (w : World) (hl : Lib0 w) : Calls Tryz.prog 221 #[.string wordsB] w fun e w' => e = .returned (.slice (some ⟨w.heap.size, 0, none⟩) 18 18) ∧ w' = w.alloc (.cells (wordsL.map str).toArray 9) := by
  have := Tryz.strings_Fields_laid wordsB w (by decide +kernel) wordsB_ascii hl.asc
  rw [fieldsW] at this
  exact this
theorem mlaw : Keyed Tryz.prog 9 := string_keyed Tryz.underlying9
theorem zero3 (w : World) : (zeroValue 3).run Tryz.prog w = .ok (.int .i64 0) w := by kernel_rfl
@[reducible] def iw (n : Int) : DataW Unit := .lit (.int .i64 n)
/-- What is laid into the map by then. -/
def Wf (k : Nat) : DataW Unit := (wordsL.take k).foldl (fun D l => D.put (.string l) (iw 1)) (.map [])
theorem Wf_step (k : Nat) (hk : k < 18) : Wf (k + 1) = (Wf k).put (.string (wordsL.getD k [])) (iw 1) := by
  unfold Wf
  have hk2 : k < wordsL.length := hk
  rw [List.take_add_one, List.getElem?_eq_getElem hk2, List.foldl_append, List.getD, List.getElem?_eq_getElem hk2]
  rfl
theorem words_short (k : Nat) : (wordsL.getD k []).length ≤ maxLen := by
  by_cases hk : k < 18
  · have : wordsL.all (fun l => decide (l.length ≤ 20)) = true := by decide
    have h2 := List.all_eq_true.1 this (wordsL[k]'hk) (List.getElem_mem _)
    rw [List.getD, List.getElem?_eq_getElem (show k < wordsL.length from hk)]
    have := of_decide_eq_true h2
    simp only [Option.getD_some]
    unfold maxLen; omega
  · rw [List.getD, List.getElem?_eq_none (show wordsL.length ≤ k by simp [wordsL]; omega)]; exact Nat.zero_le _
set_option maxRecDepth 100000 in
set_option maxHeartbeats 1000000 in
theorem words_any (w : World) (hl : Lib0 w) : Calls Tryz.prog 176 #[] w fun e w' => e = .returned (.map (some w.heap.size)) ∧ Below w.heap.size w w' ∧ w'.ownsMap Tryz.prog 9 (plainElem Tryz.prog 3) w.heap.size 18 (Wf 18) := by
  have hmm := @run_makeMap Tryz.prog
  have Hl := hid hl
  clear hl
  go_enter Tryz.func176, Tryz.ntmps176
  go_wp2_with (go_at_call 221; refine (fields_words _ (Hl.out.later ((Below.refl _ _).alloc (Nat.le_refl _) _))).mono ?_; rintro e w' ⟨rfl, rfl⟩)
  go_loopw [7] (fun i wr => ∃ k : Nat, k ≤ 18 ∧ i = .int .i64 k ∧ wr.ownsMap Tryz.prog 9 (plainElem Tryz.prog 3) w.heap.size k (Wf k) ∧ Below w.heap.size w wr ∧ Hid (wr.heap[w.heap.size + 1]? = some (.cells (wordsL.map str).toArray 9 (0, 0))))
    (fun i _ => 18 - (intOf i).toNat)
  case atStart =>
    refine ⟨0, Nat.zero_le _, rfl, (World.ownsMap_made _ _ _ _).alloc _, by repeat (first | exact Below.refl _ _ | refine bG ?_ _ | refine bI ?_ _ _ | refine bA ?_ _), ?_⟩
    have := heap_alloc_new (w.alloc (.map #[] 0)) (.cells (wordsL.map str).toArray 9)
    rwa [show (w.alloc (.map #[] 0)).heap.size = w.heap.size + 1 by simp] at this
  case round =>
    obtain ⟨k, hk, rfl, hown, hnx, hC⟩ := hrel
    by_cases hlt : k < 18
    · have hcx : wr.cell? ⟨w.heap.size + 1, k, none⟩ = some (.string ⟨(wordsL.getD k []).toArray⟩) := by
        have hk2 : k < wordsL.length := hlt
        simp only [World.cell?, hC.out]
        simp [str, List.getD, List.getElem?_eq_getElem hk2]
      have hkey : keyOf Tryz.prog 9 (.string ⟨(wordsL.getD k []).toArray⟩) = some (.string (wordsL.getD k [])) := by
        have := keyOf_string_mk (s := ⟨(wordsL.getD k []).toArray⟩) Tryz.underlying9 (by have := words_short k; simpa [ByteArray.size] using this)
        simpa using this
      have hst := Wf_step k hlt
      generalize wordsL.getD k [] = l at *
      have Hst := hid hst
      have hk0 : (0 : Int) ≤ (k : Int) := by omega
      have hk1 : (k : Int) < 18 := by omega
      clear hst
      go_wp2_with (first
        | (at_mapUpdate; refine wpList_mapUpdate_own _ rfl _ _ _ 119 rfl 9 3 mlaw Tryz.underlying119 _ w.heap.size k _ rfl hown (by unfold maxLen; omega) _ _ _ rfl rfl hkey _ [] (plainElem_int Tryz.underlying3 (WalkArith.wf_i64 (by omega))) ?_))
      intro w1 hown1 hgrow1
      have R1 := Hst.out.symm ▸ hown1
      have R2 := hnx.grown hgrow1 hnx.size (fun j hj => by cases hj; exact Nat.le_refl _)
      have R3 : Hid (w1.heap[w.heap.size + 1]? = some (.cells (wordsL.map str).toArray 9 (0, 0))) := hid (by
        rw [hgrow1.block _ (Array.getElem?_eq_some_iff.1 hC.out).1 (by simp)]; exact hC.out)
      clear hown1 hgrow1 hown hcx hC hnx
      go_wp2
      go_roundw
      case rel => exact ⟨k + 1, by omega, by go_num, R1, R2, R3⟩
      case measure => simp [intOf]; omega
    · obtain rfl : k = 18 := by omega
      go_wp2
      go_ret
      exact ⟨rfl, hnx, hown⟩
end Go.Proofs.YtjchnliaglecoaaGreatDoor

/- Names, walked: lex.Name and the reference's. Conditions: the library's variables; short texts. -/
namespace Go.Proofs.YtjchnliaglecoaaGreatDoor
open Go Go.RowKit Go.WideMaps Go.Maps Go.ChangeShapes
set_option linter.unusedVariables false
set_option linter.unusedSimpArgs false
theorem fold_atKey (k : List UInt8) (z : DataW Unit) : ∀ (L : List (List UInt8)) (D : DataW Unit), IsMap D → (L.foldl (fun D l => D.put (.string l) (iw 1)) D).atKey (.string k) z = if k ∈ L then iw 1 else D.atKey (.string k) z
  | [], D, _ => by simp
  | x :: L, D, h => by
    rw [List.foldl_cons, fold_atKey k z L _ (h.put _ _)]
    by_cases hx : k = x
    · subst hx
      rw [if_pos List.mem_cons_self, atKey_put_same (k := .string k) h True.intro]
      simp
    · rw [atKey_put_other (by intro e; exact hx (Lit.string.inj e))]
      simp [hx]
theorem Wf_at (k : List UInt8) : (Wf 18).atKey (.string k) (iw 0) = iw (if k ∈ wordsL then 1 else 0) := by
  unfold Wf
  rw [show wordsL.take 18 = wordsL from rfl, fold_atKey k _ _ _ isMap_empty]
  split <;> rfl
theorem part_any (c : Nat) (hc : c < 256) (w : World) : Calls Tryz.prog 177 #[.int .u8 (c : Int)] w fun e w' => e = .returned (.bool (partS c)) ∧ Below w.heap.size w w' := tab1 part_tab c hc w
theorem digits_any (c : Nat) (hc : c < 256) (w : World) : Calls Tryz.prog 175 #[.int .u8 (c : Int)] w fun e w' => e = .returned (.bool (digitsS c)) ∧ Below w.heap.size w w' := tab1 digits_tab c hc w
theorem letter_any (c : Nat) (hc : c < 256) (w : World) : Calls Tryz.prog 128 #[.int .u8 (c : Int)] w fun e w' => e = .returned (.bool (letterS c)) ∧ Below w.heap.size w w' := tab1 letter_tab c hc w
theorem rpart_any (c : Nat) (hc : c < 256) (w : World) : Calls Tryz.prog 130 #[.int .u8 (c : Int)] w fun e w' => e = .returned (.bool (partS c)) ∧ Below w.heap.size w w' := tab1 rpart_tab c hc w
/-- Whether it is a name. -/
def nameS (l : List UInt8) : Bool := match l with
  | [] => false
  | b :: _ => !digitsS b.toNat && !decide (l ∈ wordsL) && l.all (fun b => partS b.toNat)
theorem name_all_drop (l : List UInt8) (k : Nat) (hk : k < l.length) : (l.drop k).all (fun b => partS b.toNat) = (partS l[k].toNat && (l.drop (k + 1)).all (fun b => partS b.toNat)) := by
  rw [List.drop_eq_getElem_cons hk]; rfl
set_option maxRecDepth 10000 in
set_option maxHeartbeats 2000000 in
theorem name_any (s : ByteArray) (hs : s.size ≤ 140737488355328) (w : World) (hl : Lib0 w) :
    Calls Tryz.prog 134 #[.string s] w fun e w' => e = .returned (.bool (nameS s.data.toList)) ∧ Below w.heap.size w w' := by
  have hln : s.data.toList.length = s.size := by simp
  by_cases h0 : s.size = 0
  · have he : (s.toList == []) = true := by
      rw [ByteArray.toList_eq, List.eq_nil_of_length_eq_zero (show s.data.toList.length = 0 by omega)]; rfl
    have hn : nameS s.data.toList = false := by rw [List.eq_nil_of_length_eq_zero (show s.data.toList.length = 0 by omega)]; rfl
    have Hn := hid hn
    clear hn h0 hln
    go_enter Tryz.func134, Tryz.ntmps134
    go_wp2
    go_ret
    exact ⟨by rw [Hn.out]; rfl, Below.refl _ _⟩
  · obtain ⟨b, t, hbt⟩ : ∃ b t, s.data.toList = b :: t := by
      cases h : s.data.toList with
      | nil => rw [h] at hln; simp at hln; omega
      | cons b t => exact ⟨b, t, rfl⟩
    have he : (s.toList == []) = false := by rw [ByteArray.toList_eq, hbt]; rfl
    have h1 : (1 : Int) ≤ (s.size : Int) := by omega
    have hpos : 0 < s.size := by omega
    have hb0 : (s[0]'hpos).toNat = b.toNat := by
      have : s.data.toList[0]'(by rw [hln]; exact hpos) = b := by simp [hbt]
      rw [← this]; simp [ByteArray.getElem_eq_getElem_data]
    have hb256 := b.toNat_lt
    have Hln := hid hln
    have Hl := hid hl
    have hkey : keyOf Tryz.prog 9 (.string s) = some (.string s.data.toList) := keyOf_string_mk Tryz.underlying9 (by unfold maxLen; omega)
    have hname : nameS s.data.toList = (!digitsS b.toNat && !decide (s.data.toList ∈ wordsL) && s.data.toList.all (fun b => partS b.toNat)) := by
      rw [hbt]; rfl
    clear hln hl h0 hbt
    generalize hbb : b.toNat = c at *
    clear hbb
    have Hname := hid hname
    clear hname
    cases hd : digitsS c with
    | true =>
      have Hr : Hid (nameS s.data.toList = false) := hid (by rw [Hname.out, hd]; rfl)
      clear Hname
      go_enter Tryz.func134, Tryz.ntmps134
      go_wp2_with (go_at_call 175; ((with_reducible refine (digits_any c hb256 _).mono ?_)); rintro e w' ⟨rfl, hb⟩; obtain ⟨g1, rfl⟩ := bout hb; clear hb)
      go_ret
      exact ⟨by rw [Hr.out]; rfl, by repeat (first | exact Below.refl _ _ | refine bG ?_ _ | refine bI ?_ _ _ | refine bA ?_ _)⟩
    | false =>
      by_cases hm : s.data.toList ∈ wordsL
      · have Hc : Hid (∀ c2 : Int, (Wf 18).atKey (.string s.data.toList) (iw 0) = .lit (.int .i64 c2) → c2 = 1) := hid fun c2 h => by
          rw [Wf_at, if_pos hm] at h
          cases h; rfl
        have Hr : Hid (nameS s.data.toList = false) := hid (by rw [Hname.out, hd, decide_eq_true hm]; rfl)
        clear Hname hm
        go_enter Tryz.func134, Tryz.ntmps134
        go_wp2_with (first
      | (go_at_call 175; ((with_reducible refine (digits_any c hb256 _).mono ?_)); rintro e w' ⟨rfl, hb⟩; obtain ⟨g1, rfl⟩ := bout hb; clear hb)
      | (go_at_call 176; refine (words_any _ (Hl.out.later (bG (Below.refl _ _) _))).mono ?_; rintro e w' ⟨rfl, hb, hown⟩; obtain ⟨g2, rfl⟩ := bout hb; clear hb; rw [size_grow, grow_grow] at hown; obtain ⟨c2, hrun, hat, _⟩ := hown.lookup_int mlaw Tryz.underlying119 Tryz.underlying3 (zero3 _) hkey; have e2 := Hc.out _ hat; subst e2; clear hown hat))
        go_ret
        exact ⟨by rw [Hr.out]; rfl, by repeat (first | exact Below.refl _ _ | refine bG ?_ _ | refine bI ?_ _ _ | refine bA ?_ _)⟩
      · have Hc : Hid (∀ c2 : Int, (Wf 18).atKey (.string s.data.toList) (iw 0) = .lit (.int .i64 c2) → c2 = 0) := hid fun c2 h => by
          rw [Wf_at, if_neg hm] at h
          cases h; rfl
        have Hr : Hid (nameS s.data.toList = s.data.toList.all (fun b => partS b.toNat)) := hid (by rw [Hname.out, hd, decide_eq_false hm]; rfl)
        clear Hname hm
        go_enter Tryz.func134, Tryz.ntmps134
        go_wp2_with (first
      | (go_at_call 175; ((with_reducible refine (digits_any c hb256 _).mono ?_)); rintro e w' ⟨rfl, hb⟩; obtain ⟨g1, rfl⟩ := bout hb; clear hb)
      | (go_at_call 176; refine (words_any _ (Hl.out.later (bG (Below.refl _ _) _))).mono ?_; rintro e w' ⟨rfl, hb, hown⟩; obtain ⟨g2, rfl⟩ := bout hb; clear hb; rw [size_grow, grow_grow] at hown; obtain ⟨c2, hrun, hat, _⟩ := hown.lookup_int mlaw Tryz.underlying119 Tryz.underlying3 (zero3 _) hkey; have e2 := Hc.out _ hat; subst e2; clear hown hat))
        go_loopw [19] (fun i wr => ∃ (k : Nat) (g : Gro), i = .int .i64 k ∧ wr = grow w g ∧ k ≤ s.size ∧ Hid ((s.data.toList.drop k).all (fun b => partS b.toNat) = nameS s.data.toList)) (fun i _ => s.size - (intOf i).toNat)
        case atStart => exact ⟨0, _, rfl, rfl, by omega, hid Hr.out.symm⟩
        case round =>
          obtain ⟨k, g, rfl, rfl, hk, hR⟩ := hrel
          clear Hc hrun Hr
          by_cases hlt : k < s.size
          · have hpl : k < s.data.toList.length := by rw [Hln.out]; exact hlt
            have hx := name_all_drop s.data.toList k hpl
            rw [hR.out] at hx
            have hbe : s.data.toList[k] = s[k] := by simp [ByteArray.getElem_eq_getElem_data]
            rw [hbe] at hx
            have hx256 : (s[k]).toNat < 256 := (s[k]).toNat_lt
            obtain ⟨x, hxx⟩ : ∃ x, (s[k]).toNat = x := ⟨_, rfl⟩
            rw [hxx] at hx hx256
            have Hx := hid hx
            have k0 : (0 : Int) ≤ (k : Int) := by omega
            have k1 : (k : Int) < (s.size : Int) := by omega
            clear hx hbe hR
            cases hp : partS x with
            | false =>
              have Hp : Hid (nameS s.data.toList = false) := hid (by rw [Hx.out, hp]; rfl)
              go_wp2_with (go_at_call 177; ((with_reducible refine (part_any x hx256 _).mono ?_)); rintro e w' ⟨rfl, hb⟩; obtain ⟨g3, rfl⟩ := bout hb; clear hb)
              go_ret
              exact ⟨by rw [Hp.out]; rfl, by repeat (first | exact Below.refl _ _ | refine bG ?_ _ | refine bI ?_ _ _ | refine bA ?_ _)⟩
            | true =>
              have Hp : Hid (nameS s.data.toList = (s.data.toList.drop (k + 1)).all (fun b => partS b.toNat)) := hid (by rw [Hx.out, hp]; rfl)
              go_wp2_with (go_at_call 177; ((with_reducible refine (part_any x hx256 _).mono ?_)); rintro e w' ⟨rfl, hb⟩; obtain ⟨g3, rfl⟩ := bout hb; clear hb)
              go_roundw
              case rel => exact ⟨k + 1, _, by go_num, rfl, by omega, hid Hp.out.symm⟩
              case measure => simp [intOf]; omega
          · have hx := hR.out
            rw [List.drop_eq_nil_of_le (by rw [Hln.out]; omega)] at hx
            have Hx := hid hx.symm
            have k1 : ¬ (k : Int) < (s.size : Int) := by omega
            clear hx hR
            go_wp2
            go_ret
            exact ⟨by rw [Hx.out]; rfl, by repeat (first | exact Below.refl _ _ | refine bG ?_ _ | refine bI ?_ _ _ | refine bA ?_ _)⟩
end Go.Proofs.YtjchnliaglecoaaGreatDoor

/- Chapter 11's example, run by the abstract evaluator. Conditions: the library's variables. -/
namespace Go.Proofs.YtjchnliaglecoaaGreatDoor
open Go Go.RowKit Go.Am
set_option linter.unusedVariables false
noncomputable def l11 (f : Nat) (vs : List Value) : Option Value := match vs with
  | [.string s] => bif Nat.beq f 134 && Nat.ble s.size 1000 then some (.bool (nameS s.data.toList)) else none
  | [.int .i64 n] => bif Nat.beq f 184 && decide (0 ≤ n) && decide (n ≤ 1000000) then some (.string ⟨(Lib.itoa n).toArray⟩) else none
  | _ => l6 f vs
noncomputable def hk11 : Hk := ⟨bodied, fun _ _ => none, l11⟩
theorem plain11 (W0 : World) (hl : Lib0 W0) : Plain Tryz.prog hk11 W0 where
  x := bodied_spec
  z := fun f vs v h => by cases h
  l := fun f vs v h => by
    change l11 f vs = some v at h
    unfold l11 at h
    split at h
    · rename_i s
      cases hb : (Nat.beq f 134 && Nat.ble s.size 1000) with
      | false => rw [hb] at h; cases h
      | true =>
        rw [hb] at h
        cases h
        simp only [Bool.and_eq_true] at hb
        have := Nat.eq_of_beq_eq_true hb.1
        subst this
        have h2 := Nat.le_of_ble_eq_true hb.2
        exact ⟨rfl, rfl, fun w hw => name_any s (by omega) w (Lib0.later hl hw)⟩
    · rename_i n
      cases hb : (Nat.beq f 184 && decide (0 ≤ n) && decide (n ≤ 1000000)) with
      | false => rw [hb] at h; cases h
      | true =>
        rw [hb] at h
        cases h
        simp only [Bool.and_eq_true, decide_eq_true_eq] at hb
        have := Nat.eq_of_beq_eq_true hb.1.1
        subst this
        exact ⟨rfl, rfl, fun w hw => show_any n (by omega) (by omega) w (Lib0.later hl hw)⟩
    · exact (plain6 W0).l f _ v h
end Go.Proofs.YtjchnliaglecoaaGreatDoor
