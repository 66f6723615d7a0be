/- Words of a kind: what 'one' answers; channels and bases. Conditions: the library's variables; short texts. -/
import Derived.Test.YtjchnliaglecoaaGreatDoorMpX
import Derived.Test.YtjchnliaglecoaaGreatDoorTb
set_option linter.unusedVariables false
set_option linter.unusedSimpArgs false
namespace Go.Proofs.YtjchnliaglecoaaGreatDoor
open Go Go.RowKit
set_option linter.unusedVariables false
set_option linter.unusedSimpArgs false
def chanW : List (List UInt8) := [[48], [49], [50], [51], [52], [53], [54], [55]]
theorem one_chan (s : ByteArray) (hs : s.size ≤ 100000) (w : World) (hl : Lib0 w) : Calls Tryz.prog 182 #[.string s, .string ⟨#[48, 32, 49, 32, 50, 32, 51, 32, 52, 32, 53, 32, 54, 32, 55]⟩] w fun e w' => e = .returned (.bool (chanW.contains s.data.toList)) ∧ Below w.heap.size w w' := by
  have := one_any s ⟨#[48, 32, 49, 32, 50, 32, 51, 32, 52, 32, 53, 32, 54, 32, 55]⟩ hs (by decide) w hl
  rwa [one_eq (W := chanW) (by decide +kernel) (by decide +kernel)] at this
def boolW : List (List UInt8) := [[116, 114, 117, 101], [102, 97, 108, 115, 101]]
theorem one_bool (s : ByteArray) (hs : s.size ≤ 100000) (w : World) (hl : Lib0 w) : Calls Tryz.prog 182 #[.string s, .string ⟨#[116, 114, 117, 101, 32, 102, 97, 108, 115, 101]⟩] w fun e w' => e = .returned (.bool (boolW.contains s.data.toList)) ∧ Below w.heap.size w w' := by
  have := one_any s ⟨#[116, 114, 117, 101, 32, 102, 97, 108, 115, 101]⟩ hs (by decide) w hl
  rwa [one_eq (W := boolW) (by decide +kernel) (by decide +kernel)] at this
def tnameW : List (List UInt8) := [[97, 110, 121], [110, 105, 108], [98, 111, 111, 108], [105, 110, 116], [115, 116, 114, 105, 110, 103], [116, 97, 98, 108, 101], [116, 104, 114, 101, 97, 100]]
theorem one_tname (s : ByteArray) (hs : s.size ≤ 100000) (w : World) (hl : Lib0 w) : Calls Tryz.prog 182 #[.string s, .string ⟨#[97, 110, 121, 32, 110, 105, 108, 32, 98, 111, 111, 108, 32, 105, 110, 116, 32, 115, 116, 114, 105, 110, 103, 32, 116, 97, 98, 108, 101, 32, 116, 104, 114, 101, 97, 100]⟩] w fun e w' => e = .returned (.bool (tnameW.contains s.data.toList)) ∧ Below w.heap.size w w' := by
  have := one_any s ⟨#[97, 110, 121, 32, 110, 105, 108, 32, 98, 111, 111, 108, 32, 105, 110, 116, 32, 115, 116, 114, 105, 110, 103, 32, 116, 97, 98, 108, 101, 32, 116, 104, 114, 101, 97, 100]⟩ hs (by decide) w hl
  rwa [one_eq (W := tnameW) (by decide +kernel) (by decide +kernel)] at this
def unW : List (List UInt8) := [[45], [110, 111, 116], [35]]
theorem one_un (s : ByteArray) (hs : s.size ≤ 100000) (w : World) (hl : Lib0 w) : Calls Tryz.prog 182 #[.string s, .string ⟨#[45, 32, 110, 111, 116, 32, 35]⟩] w fun e w' => e = .returned (.bool (unW.contains s.data.toList)) ∧ Below w.heap.size w w' := by
  have := one_any s ⟨#[45, 32, 110, 111, 116, 32, 35]⟩ hs (by decide) w hl
  rwa [one_eq (W := unW) (by decide +kernel) (by decide +kernel)] at this
def binW : List (List UInt8) := [[43], [45], [42], [47, 47], [37], [46, 46], [61, 61], [126, 61], [60], [60, 61], [62], [62, 61]]
theorem one_bin (s : ByteArray) (hs : s.size ≤ 100000) (w : World) (hl : Lib0 w) : Calls Tryz.prog 182 #[.string s, .string ⟨#[43, 32, 45, 32, 42, 32, 47, 47, 32, 37, 32, 46, 46, 32, 61, 61, 32, 126, 61, 32, 60, 32, 60, 61, 32, 62, 32, 62, 61]⟩] w fun e w' => e = .returned (.bool (binW.contains s.data.toList)) ∧ Below w.heap.size w w' := by
  have := one_any s ⟨#[43, 32, 45, 32, 42, 32, 47, 47, 32, 37, 32, 46, 46, 32, 61, 61, 32, 126, 61, 32, 60, 32, 60, 61, 32, 62, 32, 62, 61]⟩ hs (by decide) w hl
  rwa [one_eq (W := binW) (by decide +kernel) (by decide +kernel)] at this
def rwW : List (List UInt8) := [[114, 101, 97, 100], [119, 114, 105, 116, 101]]
theorem one_rw (s : ByteArray) (hs : s.size ≤ 100000) (w : World) (hl : Lib0 w) : Calls Tryz.prog 182 #[.string s, .string ⟨#[114, 101, 97, 100, 32, 119, 114, 105, 116, 101]⟩] w fun e w' => e = .returned (.bool (rwW.contains s.data.toList)) ∧ Below w.heap.size w w' := by
  have := one_any s ⟨#[114, 101, 97, 100, 32, 119, 114, 105, 116, 101]⟩ hs (by decide) w hl
  rwa [one_eq (W := rwW) (by decide +kernel) (by decide +kernel)] at this
theorem channel_any (s : ByteArray) (hs : s.size ≤ 100000) (w : World) (hl : Lib0 w) : Calls Tryz.prog 186 #[.string s] w fun e w' => e = .returned (.bool (chanW.contains s.data.toList)) ∧ Below w.heap.size w w' := by
  have h := one_chan s hs w hl
  generalize chanW.contains s.data.toList = x at *
  have H := hid h
  clear hl h
  go_enter Tryz.func186, Tryz.ntmps186
  go_wp2_with (go_at_call 182; ((with_reducible refine H.out.mono ?_)); rintro e w' ⟨rfl, hb⟩; obtain ⟨g, rfl⟩ := bout hb; clear hb)
  go_ret
  exact ⟨rfl, bG (Below.refl _ _) _⟩
/-- A channel's number. -/
def chan1 (l : List UInt8) : Bool := match l with
  | [b] => Nat.ble 48 b.toNat && Nat.ble b.toNat 55
  | _ => false
theorem chan1_eq (l : List UInt8) : chanW.contains l = chan1 l := by
  match l with
  | [] => rfl
  | [b] =>
    have h : ((List.range 256).all fun n => decide (chanW.contains [n.toUInt8] = chan1 [n.toUInt8])) = true := by decide +kernel
    have h2 := of_decide_eq_true (List.all_eq_true.1 h b.toNat (List.mem_range.2 b.toNat_lt))
    simpa using h2
  | a :: b :: l => simp [chanW, chan1]
theorem chan_tab : ((List.range 256).all fun c => okAt 115 [str [c.toUInt8]] (.bool (chan1 [c.toUInt8]))) = true := by kernel_rfl
theorem rchan_no (s : ByteArray) (hs : ((s.size : Int) == 1) = false) (w : World) : Calls Tryz.prog 115 #[.string s] w fun e w' => e = .returned (.bool false) ∧ Below w.heap.size w w' := by
  go_enter Tryz.func115, Tryz.ntmps115
  go_wp2
  go_ret
  exact ⟨rfl, Below.refl _ _⟩
theorem rchan_any (s : ByteArray) (w : World) : Calls Tryz.prog 115 #[.string s] w fun e w' => e = .returned (.bool (chan1 s.data.toList)) ∧ Below w.heap.size w w' := by
  have hln : s.data.toList.length = s.size := by simp
  by_cases h1 : s.size = 1
  · obtain ⟨b, hb⟩ : ∃ b, s.data.toList = [b] := by
      match h : s.data.toList with
      | [] => rw [h] at hln; simp at hln; omega
      | [b] => exact ⟨b, rfl⟩
      | a :: b :: l => rw [h] at hln; simp at hln; omega
    have e : s = ⟨[b].toArray⟩ := by rw [← hb]
    have := tab1 chan_tab b.toNat b.toNat_lt w
    have e2 : b.toNat.toUInt8 = b := by simp
    rw [e2] at this
    rw [e]
    exact this
  · have h2 : chan1 s.data.toList = false := by
      unfold chan1
      split
      · rename_i b h; rw [h] at hln; simp at hln; omega
      · rfl
    rw [h2]
    refine rchan_no s ?_ w
    cases e : ((s.size : Int) == 1) with
    | false => rfl
    | true => have := eq_of_beq e; omega
theorem base_tab : (tnameW.all fun l => okAt 118 [str l] (.bool true)) = true := by kernel_rfl
theorem not_in {W : List (List UInt8)} {l m : List UInt8} (h : l ∉ W) (hm : m ∈ W) : (l == m) = false := by
  cases e : l == m with
  | false => rfl
  | true => exact absurd (eq_of_beq e ▸ hm) h
theorem base_no (s : ByteArray) (h : s.data.toList ∉ tnameW) (w : World) : Calls Tryz.prog 118 #[.string s] w fun e w' => e = .returned (.bool false) ∧ Below w.heap.size w w' := by
  have h0 : (s.toList == [97, 110, 121]) = false := by rw [ByteArray.toList_eq]; exact not_in h (by decide)
  have h1 : (s.toList == [110, 105, 108]) = false := by rw [ByteArray.toList_eq]; exact not_in h (by decide)
  have h2 : (s.toList == [98, 111, 111, 108]) = false := by rw [ByteArray.toList_eq]; exact not_in h (by decide)
  have h3 : (s.toList == [105, 110, 116]) = false := by rw [ByteArray.toList_eq]; exact not_in h (by decide)
  have h4 : (s.toList == [115, 116, 114, 105, 110, 103]) = false := by rw [ByteArray.toList_eq]; exact not_in h (by decide)
  have h5 : (s.toList == [116, 97, 98, 108, 101]) = false := by rw [ByteArray.toList_eq]; exact not_in h (by decide)
  have h6 : (s.toList == [116, 104, 114, 101, 97, 100]) = false := by rw [ByteArray.toList_eq]; exact not_in h (by decide)
  clear h
  go_enter Tryz.func118, Tryz.ntmps118
  go_wp2
  go_ret
  exact ⟨rfl, Below.refl _ _⟩
theorem base_any (s : ByteArray) (w : World) : Calls Tryz.prog 118 #[.string s] w fun e w' => e = .returned (.bool (tnameW.contains s.data.toList)) ∧ Below w.heap.size w w' := by
  by_cases h : s.data.toList ∈ tnameW
  · have := okAt_calls (List.all_eq_true.1 base_tab _ h) w
    rw [show tnameW.contains s.data.toList = true by simpa using h]
    have e : s = ⟨s.data.toList.toArray⟩ := by simp
    rw [e]
    exact this
  · rw [show tnameW.contains s.data.toList = false by simpa using h]; exact base_no s h w
end Go.Proofs.YtjchnliaglecoaaGreatDoor
