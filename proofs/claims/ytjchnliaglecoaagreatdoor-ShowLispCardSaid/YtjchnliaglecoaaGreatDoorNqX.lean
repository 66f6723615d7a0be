/- num.Number, walked. Conditions: short texts. -/
import Derived.Outline
import Derived.Test.YtjchnliaglecoaaGreatDoorLfBX
import Derived.Test.YtjchnliaglecoaaGreatDoorBaseBX
import Derived.Test.YtjchnliaglecoaaGreatDoorDw
set_option linter.unusedVariables false
set_option linter.unusedSimpArgs false
namespace Go.Proofs.YtjchnliaglecoaaGreatDoor
open Go Go.RowKit
set_option linter.unusedVariables false
set_option linter.unusedSimpArgs false
theorem tab1 {f : Nat} {g : Nat → List Value} {v : Nat → Value} {n : Nat} (h : ((List.range n).all fun c => okAt f (g c) (v c)) = true) (c : Nat) (hc : c < n) (w : World) : Calls Tryz.prog f (g c).toArray w fun e w' => e = .returned (v c) ∧ Below w.heap.size w w' :=
  okAt_calls (List.all_eq_true.1 h c (List.mem_range.2 hc)) w
/-- A digit's worth as num has it. -/
def digN (c : Nat) : Nat := bif Nat.beq (digS c) 16 then 99 else digS c
theorem digit_tab : ((List.range 128).all fun c => okAt 228 [.int .i32 c] (.int .u64 (digN c))) = true := by kernel_rfl
theorem digit_high (c : Int) (h : 128 ≤ c) (h2 : c ≤ 2147483647) (w : World) : Calls Tryz.prog 228 #[.int .i32 c] w fun e w' => e = .returned (.int .u64 99) ∧ Below w.heap.size w w' := by
  go_enter Tryz.func228, Tryz.ntmps228
  go_wp2
  go_ret
  exact ⟨rfl, by repeat (first | exact Below.refl _ _ | refine bG ?_ _ | refine bI ?_ _ _ | refine bA ?_ _)⟩
theorem digit_low (c : Nat) (hc : c < 128) (w : World) : Calls Tryz.prog 228 #[.int .i32 (c : Int)] w fun e w' => e = .returned (.int .u64 (digN c)) ∧ Below w.heap.size w w' := tab1 digit_tab c hc w
def decF : List UInt8 → Nat → Option Nat
  | [], n => some n
  | b :: l, n => if 9 < digS b.toNat ∨ (9223372036854775807 - digS b.toNat) / 10 < n then none else decF l (n * 10 + digS b.toNat)
def hexF : List UInt8 → Nat → Option Nat
  | [], n => some n
  | b :: l, n => if 15 < digS b.toNat then none else hexF l ((n * 16 + digS b.toNat) % 18446744073709551616)
theorem digS_le (c : Nat) : digS c ≤ 16 := by
  unfold digS
  simp only [cond_eq_ite]
  repeat' split
  all_goals simp_all
  all_goals omega
theorem decF_drop (l : List UInt8) (k : Nat) (hk : k < l.length) (n : Nat) : decF (l.drop k) n = if 9 < digS l[k].toNat ∨ (9223372036854775807 - digS l[k].toNat) / 10 < n then none else decF (l.drop (k + 1)) (n * 10 + digS l[k].toNat) := by
  rw [List.drop_eq_getElem_cons hk]; rfl
theorem hexF_drop (l : List UInt8) (k : Nat) (hk : k < l.length) (n : Nat) : hexF (l.drop k) n = if 15 < digS l[k].toNat then none else hexF (l.drop (k + 1)) ((n * 16 + digS l[k].toNat) % 18446744073709551616) := by
  rw [List.drop_eq_getElem_cons hk]; rfl
/-- A number's answer: nothing is 0, false. -/
def numV : Option Nat → Value
  | some n => .tuple #[.int .i64 (wrap64 (n : Int)), .bool true]
  | none => .tuple #[.int .i64 0, .bool false]
theorem digN_eq {b : Nat} (h : digN b < 17) : digS b = digN b := by
  unfold digN at *
  cases e : Nat.beq (digS b) 16 with
  | true => rw [e] at h; simp at h
  | false => rfl
theorem digN_ge {b : Nat} (h : digN b < 17) : digN b < 16 := by
  unfold digN at *
  cases e : Nat.beq (digS b) 16 with
  | true => rw [e] at h; simp at h
  | false =>
    have := digS_le b
    simp only [cond_false]
    rcases Nat.lt_or_ge (digS b) 16 with h1 | h1
    · exact h1
    · have : digS b = 16 := by omega
      rw [this] at e; cases e
theorem digN_no {b : Nat} (h : 16 ≤ digN b) : digS b = 16 := by
  unfold digN at *
  cases e : Nat.beq (digS b) 16 with
  | true => exact Nat.eq_of_beq_eq_true e
  | false => rw [e] at h; simp only [cond_false] at h; have := digS_le b; omega
theorem digS_high {b : Nat} (h : 128 ≤ b) : digS b = 16 := by
  unfold digS
  simp only [cond_eq_ite]
  rw [if_neg, if_neg, if_neg]
  all_goals simp only [Bool.and_eq_true, Nat.ble_eq, not_and, Nat.not_le]
  all_goals omega
set_option maxRecDepth 10000 in
set_option maxHeartbeats 2000000 in
theorem num_dec1 (s : ByteArray) (hs : s.size ≤ 140737488355328) (h1 : (2 : Int) < (s.size : Int)) (h2 : ((s.extract 0 2).toList == [48, 120]) = false) (w : World) :
    Calls Tryz.prog 183 #[.string s] w fun e w' => e = .returned (numV (decF s.data.toList 0)) ∧ Below w.heap.size w w' := by
  have hl : s.data.toList.length = s.size := by simp
  have Hl := hid hl
  have hne : (s.toList == []) = false := by
    rw [ByteArray.toList_eq]
    cases e : s.data.toList with
    | nil => rw [e] at hl; simp at hl; omega
    | cons x l => rfl
  clear hl
  go_enter Tryz.func183, Tryz.ntmps183
  go_wp2
  go_loopw [5] (fun nv wr => ∃ (pos m : Nat) (g : Gro), nv = .int .u64 m ∧ wr = grow (w.iter s pos) g ∧ pos ≤ s.size ∧ Hid (m ≤ 9223372036854775807 ∧ decF (s.data.toList.drop pos) m = decF s.data.toList 0)) (fun _ wr => s.size - wr.iterPos w.heap.size)
  case atStart => exact ⟨0, 0, _, rfl, (grow_refl _).symm, by omega, by omega, rfl⟩
  case round =>
    obtain ⟨pos, m, g, rfl, rfl, hp, hR⟩ := hrel
    by_cases hlt : pos < s.size
    · have hpl : pos < s.data.toList.length := by rw [Hl.out]; exact hlt
      have hd := decF_drop s.data.toList pos hpl m
      rw [hR.out.2] at hd
      have hb : s.data.toList[pos] = s[pos] := by simp [ByteArray.getElem_eq_getElem_data]
      rw [hb] at hd
      have hm := hR.out.1
      by_cases h128 : (s[pos]).toNat < 128
      · have hdec := decode_ascii s pos hlt h128
        have nx := next_at_q (P := Tryz.prog) s pos _ (pos + 1) hlt (by rw [hdec, Nat.add_sub_cancel_left]) (by omega)
        generalize (s[pos]).toNat = b at *
        have H := hid hd
        have Hm := hid hm
        clear hd hm hR hb hdec
        go_wp2_with (first
          | (go_at_call 228; refine (digit_low b h128 _).mono ?_; rintro e w' ⟨rfl, hb⟩; obtain ⟨g2, rfl⟩ := bout hb; clear hb))
        · rename_i q1 q2
          have e := digN_eq (b := b) (by omega)
          have hd := H.out
          rw [if_pos (by omega)] at hd
          go_ret2
          exact ⟨by rw [hd]; rfl, by repeat (first | exact Below.refl _ _ | refine bG ?_ _ | refine bI ?_ _ _ | refine bA ?_ _)⟩
        · rename_i q1 q2
          have e := digN_eq (b := b) (by omega)
          have hd := H.out
          rw [if_neg (by omega)] at hd
          refine ⟨⟨pos + 1, m * 10 + digN b, _, by simp, rfl, by omega, by omega, by rw [← e]; exact hd.symm⟩, ?_⟩
          rw [iterPos_grow _ _ _ _ _ rfl, iterPos_grow _ _ _ _ _ rfl]; omega
        · rename_i q1
          have hd := H.out
          rw [if_pos (by
            rcases Nat.lt_or_ge (digN b) 17 with h | h
            · have := digN_eq h; omega
            · have := digN_no (b := b) (by omega); omega)] at hd
          go_ret2
          exact ⟨by rw [hd]; rfl, by repeat (first | exact Below.refl _ _ | refine bG ?_ _ | refine bI ?_ _ _ | refine bA ?_ _)⟩
      · have hh := decode_high s pos hlt (by omega)
        have hh2 := decode_le s pos
        have nx := next_at (P := Tryz.prog) s pos (Utf8.decode s pos).1 (Utf8.decode s pos).2 hlt rfl
        rw [if_pos (by have := digS_high (b := (s[pos]).toNat) (by omega); omega)] at hd
        generalize (Utf8.decode s pos).1 = b at *
        generalize (Utf8.decode s pos).2 = wd at *
        have k1 := hh.1
        have H := hid hd
        have Hm := hid hm
        clear hd hm hR hb hh
        go_wp2_with (first
          | (go_at_call 228; refine (digit_high b (by omega) (by omega) _).mono ?_; rintro e w' ⟨rfl, hb⟩; obtain ⟨g2, rfl⟩ := bout hb; clear hb))
        go_ret2
        exact ⟨by rw [H.out]; rfl, by repeat (first | exact Below.refl _ _ | refine bG ?_ _ | refine bI ?_ _ _ | refine bA ?_ _)⟩
    · have nx := next_at_end (P := Tryz.prog) s pos hlt
      have hd := hR.out.2
      rw [List.drop_eq_nil_of_le (by rw [Hl.out]; omega)] at hd
      have H := hid hd
      have Hm := hid hR.out.1
      clear hd hR
      go_wp2
      go_ret2
      exact ⟨by rw [← H.out]; rfl, by repeat (first | exact Below.refl _ _ | refine bG ?_ _ | refine bI ?_ _ _ | refine bA ?_ _)⟩
set_option maxRecDepth 10000 in
set_option maxHeartbeats 2000000 in
theorem num_dec2 (s : ByteArray) (hs : s.size ≤ 140737488355328) (h1 : (s.size : Int) ≤ 2) (h0 : (1 : Int) ≤ (s.size : Int)) (w : World) :
    Calls Tryz.prog 183 #[.string s] w fun e w' => e = .returned (numV (decF s.data.toList 0)) ∧ Below w.heap.size w w' := by
  have hl : s.data.toList.length = s.size := by simp
  have Hl := hid hl
  have hne : (s.toList == []) = false := by
    rw [ByteArray.toList_eq]
    cases e : s.data.toList with
    | nil => rw [e] at hl; simp at hl; omega
    | cons x l => rfl
  clear hl
  go_enter Tryz.func183, Tryz.ntmps183
  go_wp2
  go_loopw [5] (fun nv wr => ∃ (pos m : Nat) (g : Gro), nv = .int .u64 m ∧ wr = grow (w.iter s pos) g ∧ pos ≤ s.size ∧ Hid (m ≤ 9223372036854775807 ∧ decF (s.data.toList.drop pos) m = decF s.data.toList 0)) (fun _ wr => s.size - wr.iterPos w.heap.size)
  case atStart => exact ⟨0, 0, _, rfl, (grow_refl _).symm, by omega, by omega, rfl⟩
  case round =>
    obtain ⟨pos, m, g, rfl, rfl, hp, hR⟩ := hrel
    by_cases hlt : pos < s.size
    · have hpl : pos < s.data.toList.length := by rw [Hl.out]; exact hlt
      have hd := decF_drop s.data.toList pos hpl m
      rw [hR.out.2] at hd
      have hb : s.data.toList[pos] = s[pos] := by simp [ByteArray.getElem_eq_getElem_data]
      rw [hb] at hd
      have hm := hR.out.1
      by_cases h128 : (s[pos]).toNat < 128
      · have hdec := decode_ascii s pos hlt h128
        have nx := next_at_q (P := Tryz.prog) s pos _ (pos + 1) hlt (by rw [hdec, Nat.add_sub_cancel_left]) (by omega)
        generalize (s[pos]).toNat = b at *
        have H := hid hd
        have Hm := hid hm
        clear hd hm hR hb hdec
        go_wp2_with (first
          | (go_at_call 228; refine (digit_low b h128 _).mono ?_; rintro e w' ⟨rfl, hb⟩; obtain ⟨g2, rfl⟩ := bout hb; clear hb))
        · rename_i q1 q2
          have e := digN_eq (b := b) (by omega)
          have hd := H.out
          rw [if_pos (by omega)] at hd
          go_ret2
          exact ⟨by rw [hd]; rfl, by repeat (first | exact Below.refl _ _ | refine bG ?_ _ | refine bI ?_ _ _ | refine bA ?_ _)⟩
        · rename_i q1 q2
          have e := digN_eq (b := b) (by omega)
          have hd := H.out
          rw [if_neg (by omega)] at hd
          refine ⟨⟨pos + 1, m * 10 + digN b, _, by simp, rfl, by omega, by omega, by rw [← e]; exact hd.symm⟩, ?_⟩
          rw [iterPos_grow _ _ _ _ _ rfl, iterPos_grow _ _ _ _ _ rfl]; omega
        · rename_i q1
          have hd := H.out
          rw [if_pos (by
            rcases Nat.lt_or_ge (digN b) 17 with h | h
            · have := digN_eq h; omega
            · have := digN_no (b := b) (by omega); omega)] at hd
          go_ret2
          exact ⟨by rw [hd]; rfl, by repeat (first | exact Below.refl _ _ | refine bG ?_ _ | refine bI ?_ _ _ | refine bA ?_ _)⟩
      · have hh := decode_high s pos hlt (by omega)
        have hh2 := decode_le s pos
        have nx := next_at (P := Tryz.prog) s pos (Utf8.decode s pos).1 (Utf8.decode s pos).2 hlt rfl
        rw [if_pos (by have := digS_high (b := (s[pos]).toNat) (by omega); omega)] at hd
        generalize (Utf8.decode s pos).1 = b at *
        generalize (Utf8.decode s pos).2 = wd at *
        have k1 := hh.1
        have H := hid hd
        have Hm := hid hm
        clear hd hm hR hb hh
        go_wp2_with (first
          | (go_at_call 228; refine (digit_high b (by omega) (by omega) _).mono ?_; rintro e w' ⟨rfl, hb⟩; obtain ⟨g2, rfl⟩ := bout hb; clear hb))
        go_ret2
        exact ⟨by rw [H.out]; rfl, by repeat (first | exact Below.refl _ _ | refine bG ?_ _ | refine bI ?_ _ _ | refine bA ?_ _)⟩
    · have nx := next_at_end (P := Tryz.prog) s pos hlt
      have hd := hR.out.2
      rw [List.drop_eq_nil_of_le (by rw [Hl.out]; omega)] at hd
      have H := hid hd
      have Hm := hid hR.out.1
      clear hd hR
      go_wp2
      go_ret2
      exact ⟨by rw [← H.out]; rfl, by repeat (first | exact Below.refl _ _ | refine bG ?_ _ | refine bI ?_ _ _ | refine bA ?_ _)⟩
end Go.Proofs.YtjchnliaglecoaaGreatDoor

/- num.Number of a text that begins with 0x, walked. Conditions: short texts. -/
namespace Go.Proofs.YtjchnliaglecoaaGreatDoor
open Go Go.RowKit
set_option linter.unusedVariables false
set_option linter.unusedSimpArgs false
def hexV (l : List UInt8) : Value := numV (if 16 < l.length then none else hexF l 0)
theorem iter_drew (w : World) (t : ByteArray) (p : Nat) : w.drew.iter t p = grow (w.iter t p) ⟨#[], w.drew.drawn⟩ := by
  simp only [grow, World.iter]
  show World.alloc _ _ = _
  simp only [World.alloc, Array.append_empty]
  rfl
theorem hex_step (m d : Nat) : IntKind.u64.wrap (IntKind.u64.wrap ((m : Int) * 16) + (d : Int)) = (((m * 16 + d) % 18446744073709551616 : Nat) : Int) := by
  rw [IntKind.wrap_u64, IntKind.wrap_u64]
  omega
set_option maxRecDepth 10000 in
set_option maxHeartbeats 2000000 in
theorem num_hex (s t : ByteArray) (hs : s.size ≤ 140737488355328) (h1 : (2 : Int) < (s.size : Int)) (h2 : ((s.extract 0 2).toList == [48, 120]) = true) (ht : s.extract 2 s.size = t) (w : World) :
    Calls Tryz.prog 183 #[.string s] w fun e w' => e = .returned (hexV t.data.toList) ∧ Below w.heap.size w w' := by
  have hl : t.data.toList.length = t.size := by simp
  have Hl := hid hl
  have hts : t.size = s.size - 2 := by rw [← ht]; simp
  have hne : (t.toList == []) = false := by
    rw [ByteArray.toList_eq]
    cases e : t.data.toList with
    | nil => rw [e] at hl; simp at hl; omega
    | cons x l => rfl
  have h3 : (1 : Int) ≤ (t.size : Int) := by omega
  have h4 : t.size ≤ 140737488355328 := by omega
  clear hl hts
  go_enter Tryz.func183, Tryz.ntmps183
  go_wp2
  go_region
  go_wp2
  rw [iter_drew]
  go_loopw [5] (fun nv wr => ∃ (pos m : Nat) (g : Gro), nv = .int .u64 m ∧ wr = grow (w.iter t pos) g ∧ pos ≤ t.size ∧ Hid (m < 18446744073709551616 ∧ hexF (t.data.toList.drop pos) m = hexF t.data.toList 0)) (fun _ wr => t.size - wr.iterPos w.heap.size)
  case atStart => exact ⟨0, 0, _, rfl, rfl, by omega, by omega, rfl⟩
  case round =>
    obtain ⟨pos, m, g, rfl, rfl, hp, hR⟩ := hrel
    by_cases hlt : pos < t.size
    · have hpl : pos < t.data.toList.length := by rw [Hl.out]; exact hlt
      have hd := hexF_drop t.data.toList pos hpl m
      rw [hR.out.2] at hd
      have hb : t.data.toList[pos] = t[pos] := by simp [ByteArray.getElem_eq_getElem_data]
      rw [hb] at hd
      have hm := hR.out.1
      by_cases h128 : (t[pos]).toNat < 128
      · have hdec := decode_ascii t pos hlt h128
        have nx := next_at_q (P := Tryz.prog) t pos _ (pos + 1) hlt (by rw [hdec, Nat.add_sub_cancel_left]) (by omega)
        generalize (t[pos]).toNat = b at *
        have H := hid hd
        have Hm := hid hm
        clear hd hm hR hb hdec
        by_cases q1 : 16 ≤ digN b
        · have q1' : (16 : Int) ≤ (digN b : Int) := by omega
          have hd := H.out
          rw [if_pos (by have := digN_no q1; omega)] at hd
          have H2 := hid hd
          clear hd
          go_wp2_with (first
            | (go_at_call 228; refine (digit_low b h128 _).mono ?_; rintro e w' ⟨rfl, hb⟩; obtain ⟨g2, rfl⟩ := bout hb; clear hb))
          go_ret2
          exact ⟨by unfold hexV; rw [H2.out]; split <;> rfl, by repeat (first | exact Below.refl _ _ | refine bG ?_ _ | refine bI ?_ _ _ | refine bA ?_ _)⟩
        · have q1' : (digN b : Int) < 16 := by omega
          have e := digN_eq (b := b) (by omega)
          have hd := H.out
          rw [if_neg (by omega)] at hd
          have H2 := hid hd
          have E := hid e
          clear hd e
          go_wp2_with (first
            | (go_at_call 228; refine (digit_low b h128 _).mono ?_; rintro e w' ⟨rfl, hb⟩; obtain ⟨g2, rfl⟩ := bout hb; clear hb))
          rw [hex_step]
          refine ⟨⟨pos + 1, (m * 16 + digN b) % 18446744073709551616, _, rfl, rfl, by omega, Nat.mod_lt _ (by decide), by rw [← E.out]; exact H2.out.symm⟩, ?_⟩
          rw [iterPos_grow _ _ _ _ _ rfl, iterPos_grow _ _ _ _ _ rfl]; omega
      · have hh := decode_high t pos hlt (by omega)
        have hh2 := decode_le t pos
        have nx := next_at (P := Tryz.prog) t pos (Utf8.decode t pos).1 (Utf8.decode t pos).2 hlt rfl
        rw [if_pos (by have := digS_high (b := (t[pos]).toNat) (by omega); omega)] at hd
        generalize (Utf8.decode t pos).1 = b at *
        generalize (Utf8.decode t pos).2 = wd at *
        have k1 := hh.1
        have H := hid hd
        have Hm := hid hm
        clear hd hm hR hb hh
        go_wp2_with (first
          | (go_at_call 228; refine (digit_high b (by omega) (by omega) _).mono ?_; rintro e w' ⟨rfl, hb⟩; obtain ⟨g2, rfl⟩ := bout hb; clear hb))
        go_ret2
        exact ⟨by unfold hexV; rw [H.out]; split <;> rfl, by repeat (first | exact Below.refl _ _ | refine bG ?_ _ | refine bI ?_ _ _ | refine bA ?_ _)⟩
    · have nx := next_at_end (P := Tryz.prog) t pos hlt
      have hd := hR.out.2
      rw [List.drop_eq_nil_of_le (by rw [Hl.out]; omega)] at hd
      have H := hid hd
      have Hm := hid hR.out.1
      clear hd hR
      by_cases q : 16 < t.size
      · have q1 : (16 : Int) < (t.size : Int) := by omega
        go_wp2
        go_ret2
        exact ⟨by unfold hexV; rw [if_pos (by rw [Hl.out]; exact q)]; rfl, by repeat (first | exact Below.refl _ _ | refine bG ?_ _ | refine bI ?_ _ _ | refine bA ?_ _)⟩
      · have q1 : (t.size : Int) ≤ 16 := by omega
        go_wp2
        go_ret2
        exact ⟨by unfold hexV; rw [if_neg (by rw [Hl.out]; exact q), ← H.out]; rfl, by repeat (first | exact Below.refl _ _ | refine bG ?_ _ | refine bI ?_ _ _ | refine bA ?_ _)⟩
/-- A word's number. -/
def numS (l : List UInt8) : Option Nat :=
  if 2 < l.length ∧ l.take 2 = [48, 120] then (if 16 < (l.drop 2).length then none else hexF (l.drop 2) 0) else if l = [] then none else decF l 0
theorem num_nil (s : ByteArray) (h1 : (s.size : Int) ≤ 2) (h0 : (s.size : Int) = 0) (w : World) :
    Calls Tryz.prog 183 #[.string s] w fun e w' => e = .returned (numV none) ∧ Below w.heap.size w w' := by
  have hne : (s.toList == []) = true := by
    rw [ByteArray.toList_eq]
    cases e : s.data.toList with
    | nil => rfl
    | cons x l => have : s.data.toList.length = s.size := by simp
                  rw [e] at this; simp at this; omega
  have nx := next_new_end (P := Tryz.prog) s 0 (by omega)
  clear h0
  go_enter Tryz.func183, Tryz.ntmps183
  go_wp2
  go_loopw [5] (fun nv wr => nv = .int .u64 0 ∧ wr = w.iter s 0) (fun _ _ => 0)
  case atStart => exact ⟨rfl, rfl⟩
  case round =>
    obtain ⟨rfl, rfl⟩ := hrel
    go_wp2
    go_ret2
    exact ⟨rfl, by repeat (first | exact Below.refl _ _ | refine bG ?_ _ | refine bI ?_ _ _ | refine bA ?_ _)⟩
theorem extract_take (s : ByteArray) (n : Nat) (h : n ≤ s.size) : (s.extract 0 n).toList = s.data.toList.take n := by
  rw [ByteArray.toList_eq]; simp
theorem extract_drop (s : ByteArray) (n : Nat) : (s.extract n s.size).data.toList = s.data.toList.drop n := by
  simp
  exact List.take_of_length_le (by simp)
theorem number_any (s : ByteArray) (hs : s.size ≤ 140737488355328) (w : World) :
    Calls Tryz.prog 183 #[.string s] w fun e w' => e = .returned (numV (numS s.data.toList)) ∧ Below w.heap.size w w' := by
  have hl : s.data.toList.length = s.size := by simp
  by_cases h : 2 < s.size
  · cases h2 : ((s.extract 0 2).toList == [48, 120]) with
    | true =>
      have := num_hex s _ hs (by omega) h2 rfl w
      have e : numS s.data.toList = (if 16 < (s.data.toList.drop 2).length then none else hexF (s.data.toList.drop 2) 0) := by
        have h5 : s.data.toList.take 2 = [48, 120] := by rw [← extract_take s 2 (by omega)]; exact eq_of_beq h2
        unfold numS
        rw [if_pos ⟨by omega, h5⟩]
      rw [e, ← extract_drop]
      exact this
    | false =>
      have := num_dec1 s hs (by omega) h2 w
      have e : numS s.data.toList = decF s.data.toList 0 := by
        unfold numS
        rw [if_neg, if_neg (fun h3 => by rw [h3] at hl; simp at hl; omega)]
        intro h3
        rw [← extract_take s 2 (by omega)] at h3
        rw [h3.2] at h2
        cases h2
      rw [e]; exact this
  · by_cases h0 : s.size = 0
    · have := num_nil s (by omega) (by omega) w
      have e : numS s.data.toList = none := by
        unfold numS
        rw [if_neg (by omega), if_pos (List.eq_nil_of_length_eq_zero (by omega))]
      rw [e]; exact this
    · have := num_dec2 s hs (by omega) (by omega) w
      have e : numS s.data.toList = decF s.data.toList 0 := by
        unfold numS
        rw [if_neg (by omega), if_neg (fun h3 => by rw [h3] at hl; simp at hl; omega)]
      rw [e]; exact this
end Go.Proofs.YtjchnliaglecoaaGreatDoor

/- The reference's Number, walked. Conditions: short texts. -/
namespace Go.Proofs.YtjchnliaglecoaaGreatDoor
open Go Go.RowKit
set_option linter.unusedVariables false
set_option linter.unusedSimpArgs false
theorem hex_step2 (m d : Nat) : IntKind.u64.wrap (IntKind.u64.wrap (16 * (m : Int)) + (d : Int)) = (((m * 16 + d) % 18446744073709551616 : Nat) : Int) := by
  rw [show 16 * (m : Int) = (m : Int) * 16 by omega]; exact hex_step m d
theorem rdigit_any (c : Nat) (hc : c < 256) (w : World) : Calls Tryz.prog 171 #[.int .u8 (c : Int)] w fun e w' => e = .returned (.int .i64 (digS c)) ∧ Below w.heap.size w w' := tab1 rdigit_tab c hc w
theorem numV_some {m : Nat} (h : m ≤ 9223372036854775807) : numV (some m) = .tuple #[.int .i64 (m : Int), .bool true] := by
  show Value.tuple #[.int .i64 (wrap64 (m : Int)), .bool true] = _
  rw [IntWalk.wrap64_in (m : Int) (by omega)]
set_option maxRecDepth 10000 in
set_option maxHeartbeats 2000000 in
theorem rnum_dec1 (s : ByteArray) (hs : s.size ≤ 140737488355328) (h1 : (3 : Int) ≤ (s.size : Int)) (h2 : ((s.extract 0 2).toList == [48, 120]) = false) (w : World) :
    Calls Tryz.prog 117 #[.string s] w fun e w' => e = .returned (numV (decF s.data.toList 0)) ∧ Below w.heap.size w w' := by
  have hl : s.data.toList.length = s.size := by simp
  have Hl := hid hl
  have hne : s.toList.isEmpty = false := by
    rw [ByteArray.toList_eq]
    cases e : s.data.toList with
    | nil => rw [e] at hl; simp at hl; omega
    | cons x l => rfl
  clear hl
  go_enter Tryz.func117, Tryz.ntmps117
  go_wp2
  go_loopw [7, 8] (fun nv iv wr => ∃ (pos m : Nat), iv = .int .i64 pos ∧ nv = .int .i64 m ∧ Below w.heap.size w wr ∧ pos ≤ s.size ∧ Hid (m ≤ 9223372036854775807 ∧ decF (s.data.toList.drop pos) m = decF s.data.toList 0)) (fun _ iv _ => s.size - (intOf iv).toNat)
  case atStart => exact ⟨0, 0, rfl, rfl, Below.refl _ _, by omega, by omega, rfl⟩
  case round =>
    obtain ⟨pos, m, rfl, rfl, hB, hp, hR⟩ := hrel
    by_cases hlt : pos < s.size
    · have hpl : pos < s.data.toList.length := by rw [Hl.out]; exact hlt
      have hd := decF_drop s.data.toList pos hpl m
      rw [hR.out.2] at hd
      have hb : s.data.toList[pos] = s[pos] := by simp [ByteArray.getElem_eq_getElem_data]
      rw [hb] at hd
      have hm := hR.out.1
      have p0 : (0 : Int) ≤ (pos : Int) := by omega
      have p1 : (pos : Int) < (s.size : Int) := by omega
      have hb256 : (s[pos]).toNat < 256 := (s[pos]).toNat_lt
      obtain ⟨b, hbb⟩ : ∃ b, (s[pos]).toNat = b := ⟨_, rfl⟩
      rw [hbb] at hd hb256
      have hle := digS_le b
      have H := hid hd
      have Hm := hid hm
      have HB := hid hB
      clear hd hm hR hb hB
      by_cases q1 : 9 < digS b
      · have q1' : (9 : Int) < (digS b : Int) := by omega
        have hd := H.out
        rw [if_pos (.inl q1)] at hd
        have H2 := hid hd
        clear hd
        go_wp2_with (first
          | (go_at_call 171; ((with_reducible refine (rdigit_any b hb256 _).mono ?_)); rintro e w' ⟨rfl, hb⟩; obtain ⟨g2, rfl⟩ := bout hb; clear hb))
        go_ret2
        exact ⟨by rw [H2.out]; rfl, by repeat (first | exact Below.refl _ _ | exact HB.out | refine bG ?_ _ | refine bI ?_ _ _ | refine bA ?_ _)⟩
      · have q1' : (digS b : Int) ≤ 9 := by omega
        go_wp2_with (first
          | (go_at_call 171; ((with_reducible refine (rdigit_any b hb256 _).mono ?_)); rintro e w' ⟨rfl, hb⟩; obtain ⟨g2, rfl⟩ := bout hb; clear hb))
        · rename_i q
          have hd := H.out
          rw [if_pos (by omega)] at hd
          go_ret2
          exact ⟨by rw [hd]; rfl, by repeat (first | exact Below.refl _ _ | exact HB.out | refine bG ?_ _ | refine bI ?_ _ _ | refine bA ?_ _)⟩
        · rename_i q
          have hd := H.out
          rw [if_neg (by omega)] at hd
          refine ⟨⟨pos + 1, m * 10 + digS b, by simp, ?_, by repeat (first | exact Below.refl _ _ | exact HB.out | refine bG ?_ _ | refine bI ?_ _ _ | refine bA ?_ _), by omega, by omega, hd.symm⟩, by simp [intOf]; omega⟩
          rw [show 10 * (m : Int) + (digS b : Int) = ((m * 10 + digS b : Nat) : Int) by omega]
    · have hd := hR.out.2
      rw [List.drop_eq_nil_of_le (by rw [Hl.out]; omega)] at hd
      have H := hid hd
      have Hm := hid hR.out.1
      have p2 : ¬ ((pos : Int) < (s.size : Int)) := by omega
      clear hd hR
      go_wp2
      go_ret2
      exact ⟨by rw [← H.out, show decF [] m = some m from rfl, numV_some Hm.out]; rfl, hB⟩
set_option maxRecDepth 10000 in
set_option maxHeartbeats 2000000 in
theorem rnum_dec2 (s : ByteArray) (hs : s.size ≤ 140737488355328) (h1 : (s.size : Int) < 3) (h0 : (1 : Int) ≤ (s.size : Int)) (w : World) :
    Calls Tryz.prog 117 #[.string s] w fun e w' => e = .returned (numV (decF s.data.toList 0)) ∧ Below w.heap.size w w' := by
  have hl : s.data.toList.length = s.size := by simp
  have Hl := hid hl
  have hne : s.toList.isEmpty = false := by
    rw [ByteArray.toList_eq]
    cases e : s.data.toList with
    | nil => rw [e] at hl; simp at hl; omega
    | cons x l => rfl
  clear hl
  go_enter Tryz.func117, Tryz.ntmps117
  go_wp2
  go_loopw [7, 8] (fun nv iv wr => ∃ (pos m : Nat), iv = .int .i64 pos ∧ nv = .int .i64 m ∧ Below w.heap.size w wr ∧ pos ≤ s.size ∧ Hid (m ≤ 9223372036854775807 ∧ decF (s.data.toList.drop pos) m = decF s.data.toList 0)) (fun _ iv _ => s.size - (intOf iv).toNat)
  case atStart => exact ⟨0, 0, rfl, rfl, Below.refl _ _, by omega, by omega, rfl⟩
  case round =>
    obtain ⟨pos, m, rfl, rfl, hB, hp, hR⟩ := hrel
    by_cases hlt : pos < s.size
    · have hpl : pos < s.data.toList.length := by rw [Hl.out]; exact hlt
      have hd := decF_drop s.data.toList pos hpl m
      rw [hR.out.2] at hd
      have hb : s.data.toList[pos] = s[pos] := by simp [ByteArray.getElem_eq_getElem_data]
      rw [hb] at hd
      have hm := hR.out.1
      have p0 : (0 : Int) ≤ (pos : Int) := by omega
      have p1 : (pos : Int) < (s.size : Int) := by omega
      have hb256 : (s[pos]).toNat < 256 := (s[pos]).toNat_lt
      obtain ⟨b, hbb⟩ : ∃ b, (s[pos]).toNat = b := ⟨_, rfl⟩
      rw [hbb] at hd hb256
      have hle := digS_le b
      have H := hid hd
      have Hm := hid hm
      have HB := hid hB
      clear hd hm hR hb hB
      by_cases q1 : 9 < digS b
      · have q1' : (9 : Int) < (digS b : Int) := by omega
        have hd := H.out
        rw [if_pos (.inl q1)] at hd
        have H2 := hid hd
        clear hd
        go_wp2_with (first
          | (go_at_call 171; ((with_reducible refine (rdigit_any b hb256 _).mono ?_)); rintro e w' ⟨rfl, hb⟩; obtain ⟨g2, rfl⟩ := bout hb; clear hb))
        go_ret2
        exact ⟨by rw [H2.out]; rfl, by repeat (first | exact Below.refl _ _ | exact HB.out | refine bG ?_ _ | refine bI ?_ _ _ | refine bA ?_ _)⟩
      · have q1' : (digS b : Int) ≤ 9 := by omega
        go_wp2_with (first
          | (go_at_call 171; ((with_reducible refine (rdigit_any b hb256 _).mono ?_)); rintro e w' ⟨rfl, hb⟩; obtain ⟨g2, rfl⟩ := bout hb; clear hb))
        · rename_i q
          have hd := H.out
          rw [if_pos (by omega)] at hd
          go_ret2
          exact ⟨by rw [hd]; rfl, by repeat (first | exact Below.refl _ _ | exact HB.out | refine bG ?_ _ | refine bI ?_ _ _ | refine bA ?_ _)⟩
        · rename_i q
          have hd := H.out
          rw [if_neg (by omega)] at hd
          refine ⟨⟨pos + 1, m * 10 + digS b, by simp, ?_, by repeat (first | exact Below.refl _ _ | exact HB.out | refine bG ?_ _ | refine bI ?_ _ _ | refine bA ?_ _), by omega, by omega, hd.symm⟩, by simp [intOf]; omega⟩
          rw [show 10 * (m : Int) + (digS b : Int) = ((m * 10 + digS b : Nat) : Int) by omega]
    · have hd := hR.out.2
      rw [List.drop_eq_nil_of_le (by rw [Hl.out]; omega)] at hd
      have H := hid hd
      have Hm := hid hR.out.1
      have p2 : ¬ ((pos : Int) < (s.size : Int)) := by omega
      clear hd hR
      go_wp2
      go_ret2
      exact ⟨by rw [← H.out, show decF [] m = some m from rfl, numV_some Hm.out]; rfl, hB⟩
set_option maxRecDepth 10000 in
set_option maxHeartbeats 2000000 in
theorem rnum_hex (s : ByteArray) (hs : s.size ≤ 140737488355328) (h1 : (3 : Int) ≤ (s.size : Int)) (h2 : ((s.extract 0 2).toList == [48, 120]) = true) (w : World) :
    Calls Tryz.prog 117 #[.string s] w fun e w' => e = .returned (hexV (s.data.toList.drop 2)) ∧ Below w.heap.size w w' := by
  have hl : s.data.toList.length = s.size := by simp
  have Hl := hid hl
  have hne : s.toList.isEmpty = false := by
    rw [ByteArray.toList_eq]
    cases e : s.data.toList with
    | nil => rw [e] at hl; simp at hl; omega
    | cons x l => rfl
  clear hl
  go_enter Tryz.func117, Tryz.ntmps117
  go_wp2
  go_loopw [4, 5] (fun nv iv wr => ∃ (pos m : Nat), iv = .int .i64 pos ∧ nv = .int .u64 m ∧ Below w.heap.size w wr ∧ pos ≤ s.size ∧ 2 ≤ pos ∧ pos ≤ 18 ∧ Hid (m < 18446744073709551616 ∧ hexF (s.data.toList.drop pos) m = hexF (s.data.toList.drop 2) 0)) (fun _ iv _ => s.size - (intOf iv).toNat)
  case atStart => exact ⟨2, 0, rfl, rfl, Below.refl _ _, by omega, by omega, by omega, by omega, rfl⟩
  case round =>
    obtain ⟨pos, m, rfl, rfl, hB, hp, hp2, hp18, hR⟩ := hrel
    by_cases hlt : pos < s.size
    · have hpl : pos < s.data.toList.length := by rw [Hl.out]; exact hlt
      have hd := hexF_drop s.data.toList pos hpl m
      rw [hR.out.2] at hd
      have hb : s.data.toList[pos] = s[pos] := by simp [ByteArray.getElem_eq_getElem_data]
      rw [hb] at hd
      have hm := hR.out.1
      have p0 : (0 : Int) ≤ (pos : Int) := by omega
      have p1 : (pos : Int) < (s.size : Int) := by omega
      have hb256 : (s[pos]).toNat < 256 := (s[pos]).toNat_lt
      obtain ⟨b, hbb⟩ : ∃ b, (s[pos]).toNat = b := ⟨_, rfl⟩
      rw [hbb] at hd hb256
      have hle := digS_le b
      have H := hid hd
      have Hm := hid hm
      have HB := hid hB
      clear hd hm hR hb hB
      by_cases q1 : 15 < digS b
      · have q1' : (15 : Int) < (digS b : Int) := by omega
        have hd := H.out
        rw [if_pos q1] at hd
        have H2 := hid hd
        clear hd
        go_wp2_with (first
          | (go_at_call 171; ((with_reducible refine (rdigit_any b hb256 _).mono ?_)); rintro e w' ⟨rfl, hb⟩; obtain ⟨g2, rfl⟩ := bout hb; clear hb))
        go_ret2
        exact ⟨by unfold hexV; rw [H2.out]; split <;> rfl, by repeat (first | exact Below.refl _ _ | exact HB.out | refine bG ?_ _ | refine bI ?_ _ _ | refine bA ?_ _)⟩
      · have q1' : (digS b : Int) ≤ 15 := by omega
        have hd := H.out
        rw [if_neg q1] at hd
        have H2 := hid hd
        clear hd
        by_cases q2 : 17 < pos
        · have q2' : (17 : Int) < (pos : Int) := by omega
          go_wp2_with (first
            | (go_at_call 171; ((with_reducible refine (rdigit_any b hb256 _).mono ?_)); rintro e w' ⟨rfl, hb⟩; obtain ⟨g2, rfl⟩ := bout hb; clear hb))
          go_ret2
          exact ⟨by unfold hexV; rw [if_pos (by rw [List.length_drop, Hl.out]; omega)]; rfl, by repeat (first | exact Below.refl _ _ | exact HB.out | refine bG ?_ _ | refine bI ?_ _ _ | refine bA ?_ _)⟩
        · have q2' : (pos : Int) ≤ 17 := by omega
          go_wp2_with (first
            | (go_at_call 171; ((with_reducible refine (rdigit_any b hb256 _).mono ?_)); rintro e w' ⟨rfl, hb⟩; obtain ⟨g2, rfl⟩ := bout hb; clear hb))
          rw [hex_step2]
          exact ⟨⟨pos + 1, (m * 16 + digS b) % 18446744073709551616, by simp, rfl, by repeat (first | exact Below.refl _ _ | exact HB.out | refine bG ?_ _ | refine bI ?_ _ _ | refine bA ?_ _), by omega, by omega, by omega, Nat.mod_lt _ (by decide), H2.out.symm⟩, by simp [intOf]; omega⟩
    · have hd := hR.out.2
      rw [List.drop_eq_nil_of_le (by rw [Hl.out]; omega)] at hd
      have H := hid hd
      have Hm := hid hR.out.1
      have p2 : ¬ ((pos : Int) < (s.size : Int)) := by omega
      clear hd hR
      go_wp2
      go_ret2
      exact ⟨by unfold hexV; rw [if_neg (by rw [List.length_drop, Hl.out]; omega), ← H.out]; rfl, hB⟩
theorem rnum_nil (s : ByteArray) (h1 : (s.size : Int) < 3) (h0 : (s.size : Int) ≤ 0) (w : World) :
    Calls Tryz.prog 117 #[.string s] w fun e w' => e = .returned (numV none) ∧ Below w.heap.size w w' := by
  have hne : s.toList.isEmpty = true := by
    rw [ByteArray.toList_eq]
    cases e : s.data.toList with
    | nil => rfl
    | cons x l => have : s.data.toList.length = s.size := by simp
                  rw [e] at this; simp at this; omega
  go_enter Tryz.func117, Tryz.ntmps117
  go_wp2
  go_loop [7, 8] (fun nv iv => nv = .int .i64 0 ∧ iv = .int .i64 0) (fun _ _ => 0)
  case atStart => exact ⟨rfl, rfl⟩
  case round =>
    obtain ⟨rfl, rfl⟩ := hrel
    go_wp2
    go_ret2
    exact ⟨rfl, Below.refl _ _⟩
theorem rnumber_any (s : ByteArray) (hs : s.size ≤ 140737488355328) (w : World) :
    Calls Tryz.prog 117 #[.string s] w fun e w' => e = .returned (numV (numS s.data.toList)) ∧ Below w.heap.size w w' := by
  have hl : s.data.toList.length = s.size := by simp
  by_cases h : 2 < s.size
  · cases h2 : ((s.extract 0 2).toList == [48, 120]) with
    | true =>
      have := rnum_hex s hs (by omega) h2 w
      have h5 : s.data.toList.take 2 = [48, 120] := by rw [← extract_take s 2 (by omega)]; exact eq_of_beq h2
      have e : numS s.data.toList = (if 16 < (s.data.toList.drop 2).length then none else hexF (s.data.toList.drop 2) 0) := by
        unfold numS
        rw [if_pos ⟨by omega, h5⟩]
      rw [e]
      exact this
    | false =>
      have := rnum_dec1 s hs (by omega) h2 w
      have e : numS s.data.toList = decF s.data.toList 0 := by
        unfold numS
        rw [if_neg, if_neg (fun h3 => by rw [h3] at hl; simp at hl; omega)]
        intro h3
        rw [← extract_take s 2 (by omega)] at h3
        rw [h3.2] at h2
        cases h2
      rw [e]; exact this
  · by_cases h0 : s.size = 0
    · have := rnum_nil s (by omega) (by omega) w
      have e : numS s.data.toList = none := by
        unfold numS
        rw [if_neg (by omega), if_pos (List.eq_nil_of_length_eq_zero (by omega))]
      rw [e]; exact this
    · have := rnum_dec2 s hs (by omega) (by omega) w
      have e : numS s.data.toList = decF s.data.toList 0 := by
        unfold numS
        rw [if_neg (by omega), if_neg (fun h3 => by rw [h3] at hl; simp at hl; omega)]
      rw [e]; exact this
end Go.Proofs.YtjchnliaglecoaaGreatDoor
