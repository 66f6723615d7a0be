/- The reference's Quote, walked. Conditions: the text is not too long. -/
import Derived.Deep.QuietTactic
import Derived.BigQuiet
import Derived.Test.YtjchnliaglecoaaGreatDoorLi
import Derived.Test.YtjchnliaglecoaaGreatDoorBaseBX
import Derived.Test.YtjchnliaglecoaaGreatDoorProg
set_option linter.unusedVariables false
set_option linter.unusedSimpArgs false
namespace Go.Proofs.YtjchnliaglecoaaGreatDoor
open Go Go.RowKit Go.Nodes
set_option linter.unusedVariables false
set_option linter.unusedSimpArgs false
def preQ (s : ByteArray) (i : Nat) : ByteArray := ⟨(34 :: (s.data.toList.take i).flatMap qc).toArray⟩
theorem preQ_zero (s : ByteArray) : preQ s 0 = ⟨#[34]⟩ := by simp [preQ]
theorem preQ_succ (s : ByteArray) (i : Nat) (h : i < s.size) : preQ s (i + 1) = preQ s i ++ ⟨(qc s[i]).toArray⟩ := by
  have h2 : i < s.data.toList.length := by simpa using h
  have h3 : s.data.toList[i] = s[i] := by simp [ByteArray.getElem_eq_getElem_data]
  apply ByteArray.ext
  apply Array.ext'
  rw [ByteArray.data_append, Array.toList_append]
  simp only [preQ]
  rw [List.take_add_one, List.getElem?_eq_getElem h2, List.flatMap_append, h3]
  simp
theorem preQ_size (s : ByteArray) (i : Nat) : (preQ s i).size ≤ 4 * i + 1 := by
  have := flat_qc_len (s.data.toList.take i)
  have h2 : (s.data.toList.take i).length ≤ i := by rw [List.length_take]; omega
  show (34 :: (s.data.toList.take i).flatMap qc).toArray.size ≤ _
  simp only [List.size_toArray, List.length_cons]
  omega
theorem preQ_end (s : ByteArray) : preQ s s.size ++ ⟨#[34]⟩ = quoteT s := by
  apply ByteArray.ext
  apply Array.ext'
  rw [ByteArray.data_append, Array.toList_append]
  simp only [preQ, quoteT]
  rw [List.take_of_length_le (by simp)]
  simp
theorem cut_one (s : ByteArray) (i : Nat) (h : i < s.size) : s.extract i (i + 1) = ⟨#[s[i]]⟩ := by
  have h2 : i < s.data.toList.length := by simpa using h
  have h3 : s.data.toList[i] = s[i] := by simp [ByteArray.getElem_eq_getElem_data]
  apply ByteArray.ext
  apply Array.ext'
  rw [ByteArray.data_extract, Array.toList_extract]
  show (s.data.toList.drop i).take (i + 1 - i) = [s[i]]
  rw [show i + 1 - i = 1 by omega, List.drop_eq_getElem_cons h2, h3]
  rfl
theorem hex_cut : ∀ h : Nat, h < 16 → (⟨#[48, 49, 50, 51, 52, 53, 54, 55, 56, 57, 97, 98, 99, 100, 101, 102]⟩ : ByteArray).extract h (h + 1) = ⟨#[hexD h]⟩ := by decide
theorem qc_10 {c : UInt8} (h : c.toNat = 10) : qc c = [92, 110] := by
  have : c = 10 := UInt8.toNat_inj.1 (by simpa using h)
  rw [this]; rfl
theorem ne_lit {c : UInt8} {k : Nat} (hk : k < 256) (h : c.toNat ≠ k) : c ≠ UInt8.ofNat k := fun e => h (by rw [e]; simp [Nat.mod_eq_of_lt hk])
theorem qc_esc {c : UInt8} (h : c.toNat ≠ 10) (h2 : c.toNat = 34 ∨ c.toNat = 92) : qc c = [92, c] := by
  have h1 : ¬ c = 10 := ne_lit (k := 10) (by decide) h
  have h3 : c = 34 ∨ c = 92 := h2.imp (fun e => UInt8.toNat_inj.1 (by simpa using e)) (fun e => UInt8.toNat_inj.1 (by simpa using e))
  unfold qc
  rw [if_neg h1, if_pos h3]
theorem qc_hex {c : UInt8} (h : c.toNat ≠ 10) (h2 : c.toNat ≠ 34) (h3 : c.toNat ≠ 92) (h4 : c.toNat < 32 ∨ 126 < c.toNat) : qc c = [92, 120, hexD (c.toNat / 16), hexD (c.toNat % 16)] := by
  have e1 : ¬ c = 10 := ne_lit (k := 10) (by decide) h
  have e2 : ¬ (c = 34 ∨ c = 92) := fun e => e.elim (ne_lit (k := 34) (by decide) h2) (ne_lit (k := 92) (by decide) h3)
  have e3 : c < 32 ∨ 126 < c := h4.imp (fun e => by rw [UInt8.lt_iff_toNat_lt]; simpa using e) (fun e => by rw [UInt8.lt_iff_toNat_lt]; simpa using e)
  unfold qc
  rw [if_neg e1, if_neg e2, if_pos e3]
theorem qc_else {c : UInt8} (h : c.toNat ≠ 10) (h2 : c.toNat ≠ 34) (h3 : c.toNat ≠ 92) (h4 : 32 ≤ c.toNat) (h5 : c.toNat ≤ 126) : qc c = [c] := by
  have e1 : ¬ c = 10 := ne_lit (k := 10) (by decide) h
  have e2 : ¬ (c = 34 ∨ c = 92) := fun e => e.elim (ne_lit (k := 34) (by decide) h2) (ne_lit (k := 92) (by decide) h3)
  have e3 : ¬ (c < 32 ∨ 126 < c) := fun e => e.elim (fun e => by rw [UInt8.lt_iff_toNat_lt] at e; simp at e; omega) (fun e => by rw [UInt8.lt_iff_toNat_lt] at e; simp at e; omega)
  unfold qc
  rw [if_neg e1, if_neg e2, if_neg e3]
set_option maxRecDepth 100000 in
set_option maxHeartbeats 2000000 in
theorem rquote_any (s : ByteArray) (w : World) (hs : s.size ≤ 100000) :
    Calls Tryz.prog 100 #[.string s] w fun e w' => e = .returned (.string (quoteT s)) ∧ Below w.heap.size w w' := by
  go_enter Tryz.func100, Tryz.ntmps100
  go_wp2
  go_loopw [3, 4] (fun ov iv wr => ∃ i : Nat, i ≤ s.size ∧ iv = .int .i64 i ∧ ov = .string (preQ s i) ∧ Below w.heap.size w wr) (fun _ iv _ => s.size - (intOf iv).toNat)
  case atStart => exact ⟨0, Nat.zero_le _, rfl, by rw [preQ_zero], Below.refl _ _⟩
  case round =>
    obtain ⟨i, hi, rfl, rfl, hB⟩ := hrel
    have hp := preQ_size s i
    by_cases hlt : i < s.size
    · have i0 : (0 : Int) ≤ (i : Int) := by omega
      have i1 : (i : Int) < (s.size : Int) := by omega
      have Hsucc := hid (preQ_succ s i hlt)
      have hcut := cut_one s i hlt
      obtain ⟨b, hbb⟩ : ∃ b, (s[i]).toNat = b := ⟨_, rfl⟩
      have hb256 : b < 256 := by rw [← hbb]; exact (s[i]).toNat_lt
      have HB := hid hB
      clear hB
      by_cases h10 : b = 10
      · subst h10
        have hq := hid (qc_10 hbb)
        go_wp2
        go_roundw
        case rel => exact ⟨i + 1, by omega, by go_num, by rw [Hsucc.out, hq.out], HB.out⟩
        case measure => simp [intOf]; omega
      have e10 : ((b : Int) == 10) = false := by simp; omega
      by_cases h92 : b = 92
      · subst h92
        have hq := hid (qc_esc (by omega) (.inr hbb))
        clear h10 e10
        go_wp2
        go_roundw
        case rel => exact ⟨i + 1, by omega, by go_num, by rw [Hsucc.out, hq.out]; rfl, HB.out⟩
        case measure => simp [intOf]; omega
      have e92 : ((b : Int) == 92) = false := by simp; omega
      by_cases h34 : b = 34
      · subst h34
        have hq := hid (qc_esc (by omega) (.inl hbb))
        clear h10 e10 h92 e92
        go_wp2
        go_roundw
        case rel => exact ⟨i + 1, by omega, by go_num, by rw [Hsucc.out, hq.out]; rfl, HB.out⟩
        case measure => simp [intOf]; omega
      have e34 : ((b : Int) == 34) = false := by simp; omega
      by_cases hx : b < 32 ∨ 126 < b
      · have hq := hid (qc_hex (c := s[i]) (by omega) (by omega) (by omega) (by omega))
        have hq0 := qc_hex (c := s[i]) (by omega) (by omega) (by omega) (by omega)
        have hh1 := hex_cut (b / 16) (by omega)
        have hh2 := hex_cut (b % 16) (by omega)
        obtain ⟨q, hq1⟩ : ∃ q, b / 16 = q := ⟨_, rfl⟩
        obtain ⟨r, hr1⟩ : ∃ r, b % 16 = r := ⟨_, rfl⟩
        have hqb : q < 16 := by omega
        have hrb : r < 16 := by omega
        rw [hq1] at hh1
        rw [hbb, hq1, hr1] at hq0
        have hq := hid hq0
        clear hq0
        rw [hr1] at hh2
        have d1 : ((b : Int) / 16) = (q : Int) := by omega
        have d2 : ((b : Int) % 16) = (r : Int) := by omega
        have d3 : ((b : Int).tdiv 16) = (q : Int) := by rw [← d1]; exact Int.tdiv_eq_ediv_of_nonneg (by omega)
        have d4 : ((b : Int).tmod 16) = (r : Int) := by rw [← d2]; exact Int.tmod_eq_emod_of_nonneg (by omega)
        rcases hx with hx | hx
        · have hx1 : (b : Int) < 32 := by omega
          go_wp2
          go_quiet (fail)
          go_wp2
          go_roundw
          case rel => exact ⟨i + 1, by omega, by go_num, by rw [Hsucc.out, hq.out]; rfl, bN HB.out _⟩
          case measure => simp [intOf]; omega
        · have hx1 : ¬ (b : Int) < 32 := by omega
          have hx2 : (126 : Int) < (b : Int) := by omega
          go_wp2
          go_quiet (fail)
          go_wp2
          go_roundw
          case rel => exact ⟨i + 1, by omega, by go_num, by rw [Hsucc.out, hq.out]; rfl, bN HB.out _⟩
          case measure => simp [intOf]; omega
      · have hx1 : ¬ (b : Int) < 32 := by omega
        have hx2 : ¬ (126 : Int) < (b : Int) := by omega
        have hq := hid (qc_else (c := s[i]) (by omega) (by omega) (by omega) (by omega) (by omega))
        go_wp2
        go_roundw
        case rel => exact ⟨i + 1, by omega, by go_num, by rw [Hsucc.out, hq.out], HB.out⟩
        case measure => simp [intOf]; omega
    · obtain rfl : i = s.size := by omega
      have HB := hid hB
      have He := hid (preQ_end s)
      clear hB
      go_wp2
      go_ret
      exact ⟨by rw [← He.out]; rfl, HB.out⟩
end Go.Proofs.YtjchnliaglecoaaGreatDoor
