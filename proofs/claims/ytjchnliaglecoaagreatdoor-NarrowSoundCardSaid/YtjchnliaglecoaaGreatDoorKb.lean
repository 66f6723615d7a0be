/- Kinds as bits. Conditions: none. -/
import Derived.Test.YtjchnliaglecoaaGreatDoorKkX
set_option linter.unusedVariables false
set_option linter.unusedSimpArgs false
namespace Go.Proofs.YtjchnliaglecoaaGreatDoor
open Go Go.RowKit Go.Nodes
set_option linter.unusedVariables false
set_option linter.unusedSimpArgs false
theorem wrap_small (n : Nat) (h : n ≤ 127) : IntKind.i64.wrap (n : Int) = (n : Int) := IntWalk.i64_in _ (by omega)
theorem bits_and_nat (h : Nat) (hh : h ≤ 127) (kk : Int) : ∃ β : Nat, bits .and .i64 (h : Int) kk = (β : Int) ∧ β = h &&& (BitVec.ofInt 64 kk).toNat ∧ β ≤ h := by
  refine ⟨h &&& (BitVec.ofInt 64 kk).toNat, ?_, rfl, Nat.and_le_left⟩
  have hb : (h &&& (BitVec.ofInt 64 kk).toNat) ≤ 127 := Nat.le_trans Nat.and_le_left hh
  have e : (BitVec.ofInt 64 (h : Int) &&& BitVec.ofInt 64 kk).toNat = h &&& (BitVec.ofInt 64 kk).toNat := by
    rw [BitVec.toNat_and]
    congr 1
    rw [BitVec.ofInt_natCast, BitVec.toNat_ofNat, Nat.mod_eq_of_lt (by omega)]
  show IntKind.i64.wrap ((BitVec.ofInt 64 (h : Int) &&& BitVec.ofInt 64 kk).toNat : Int) = _
  rw [e]
  exact wrap_small _ hb
theorem bits_or_nat (h c : Nat) (hh : h ≤ 127) (hc : c ≤ 127) : bits .or .i64 (h : Int) (c : Int) = ((h ||| c : Nat) : Int) := by
  have hb : (h ||| c) ≤ 127 := by
    have := Nat.or_lt_two_pow (n := 7) (show h < 2 ^ 7 by omega) (show c < 2 ^ 7 by omega)
    omega
  have e : (BitVec.ofInt 64 (h : Int) ||| BitVec.ofInt 64 (c : Int)).toNat = h ||| c := by
    rw [BitVec.toNat_or, BitVec.ofInt_natCast, BitVec.ofInt_natCast, BitVec.toNat_ofNat, BitVec.toNat_ofNat, Nat.mod_eq_of_lt (by omega), Nat.mod_eq_of_lt (by omega)]
  show IntKind.i64.wrap ((BitVec.ofInt 64 (h : Int) ||| BitVec.ofInt 64 (c : Int)).toNat : Int) = _
  rw [e]
  exact wrap_small _ hb
theorem bitK_nat (k : Int) (h1 : 1 ≤ k) (h6 : k ≤ 6) : ∃ c : Nat, bitK k = (c : Int) ∧ c ≤ 127 ∧ c &&& 95 = c ∧ c ≠ 0 := by
  have : k = 1 ∨ k = 2 ∨ k = 3 ∨ k = 4 ∨ k = 5 ∨ k = 6 := by omega
  rcases this with rfl | rfl | rfl | rfl | rfl | rfl
  · exact ⟨1, rfl, by decide, by decide, by decide⟩
  · exact ⟨2, rfl, by decide, by decide, by decide⟩
  · exact ⟨4, rfl, by decide, by decide, by decide⟩
  · exact ⟨8, rfl, by decide, by decide, by decide⟩
  · exact ⟨16, rfl, by decide, by decide, by decide⟩
  · exact ⟨64, rfl, by decide, by decide, by decide⟩
theorem orL_nat : ∀ (l : List Sk) (n : Nat), n ≤ 127 → n &&& 95 = n → (∀ T ∈ l, 1 ≤ skK T ∧ skK T ≤ 6) → ∃ m : Nat, orL l (n : Int) = (m : Int) ∧ m ≤ 127 ∧ m &&& 95 = m
  | [], n, h1, h2, _ => ⟨n, rfl, h1, h2⟩
  | T :: l, n, h1, h2, hl => by
    obtain ⟨c, hc, hc1, hc2, _⟩ := bitK_nat (skK T) (hl T (by simp)).1 (hl T (by simp)).2
    unfold orL
    rw [hc, bits_or_nat n c h1 hc1]
    refine orL_nat l (n ||| c) ?_ ?_ (fun T hT => hl T (by simp [hT]))
    · have := Nat.or_lt_two_pow (n := 7) (show n < 2 ^ 7 by omega) (show c < 2 ^ 7 by omega)
      omega
    · rw [Nat.and_or_distrib_right, h2, hc2]
/-- The kinds of a type that may be are at most seven. -/
theorem kinds_nat {f : Nat} {T : Sk} (hok : okT f T = true) : ∃ h : Nat, kindsS T = (h : Int) ∧ h ≤ 127 ∧ (skK T = 7 → h &&& 95 = h) := by
  obtain ⟨h0, h9, h7, _⟩ := ok_kind hok
  unfold kindsS
  by_cases e7 : skK T = 7
  · rw [if_pos e7]
    have hU := (h7 e7).1
    unfold unionB at hU
    rw [List.all_eq_true] at hU
    obtain ⟨m, e1, e2, e3⟩ := orL_nat (skA T) 0 (by decide) (by decide) (fun S hS => by
      obtain ⟨i, hi, rfl⟩ := List.getElem_of_mem hS
      have h1 := hU i (List.mem_range.2 hi)
      have h2 := (lastK_ge (d := 1) (qs := skA T) (i := i) (fun j hj => hU j (List.mem_range.2 (by omega)))).1
      unfold unionAt at h1
      rw [argAt_of hi] at h1
      simp only [Bool.and_eq_true, decide_eq_true_eq] at h1
      omega)
    exact ⟨m, e1, e2, fun _ => e3⟩
  · rw [if_neg e7]
    by_cases e8 : skK T = 8
    · rw [if_pos e8]; exact ⟨16, rfl, by decide, fun h => absurd h e7⟩
    rw [if_neg e8]
    by_cases e9 : skK T = 9
    · rw [if_pos e9]; exact ⟨32, rfl, by decide, fun h => absurd h e7⟩
    rw [if_neg e9]
    have : skK T = 0 ∨ 1 ≤ skK T := by omega
    rcases this with e | e
    · rw [e]; exact ⟨127, rfl, by decide, fun h => absurd h (by omega)⟩
    · obtain ⟨c, c1, c2, _⟩ := bitK_nat (skK T) e (by omega)
      exact ⟨c, c1, c2, fun h => absurd h e7⟩
end Go.Proofs.YtjchnliaglecoaaGreatDoor
