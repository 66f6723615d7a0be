/- Package flow: the small functions, walked. Conditions: none. -/
import Derived.Test.YtjocifamacpamaaDecB
namespace Go.Proofs.Ytjocifamacpamaa
open Go.RowKit
set_option linter.unusedVariables false
set_option linter.unusedSimpArgs false
/-- A place, or the end. -/
def plS (len n : Int) : Int := if n < 0 ∨ len ≤ n then -1 else n
set_option maxHeartbeats 1000000 in
theorem place_any (v0 v1 v3 v4 v5 : Value) (p : Option Addr) (len cap : Nat) (n : Int) (w : World) :
    Calls Try.prog 38 #[.agg #[v0, v1, .slice p len cap, v3, v4, v5], .int .i64 n] w fun e w' => e = .returned (.int .i64 (plS len n)) ∧ Below w.heap.size w w' := by
  by_cases h0 : n < 0
  · have e : plS len n = -1 := if_pos (Or.inl h0)
    rw [e]; clear e
    go_enter Try.func38, Try.ntmps38
    go_wp2
    go_ret
    exact ⟨rfl, by repeat (first | exact Below.refl _ _ | refine bG ?_ _ | refine bI ?_ _ _ | refine bA ?_ _ | refine bD ?_ | refine bN ?_ _)⟩
  by_cases h1 : (len : Int) ≤ n
  · have e : plS len n = -1 := if_pos (Or.inr h1)
    rw [e]; clear e
    go_enter Try.func38, Try.ntmps38
    go_wp2
    go_ret
    exact ⟨rfl, by repeat (first | exact Below.refl _ _ | refine bG ?_ _ | refine bI ?_ _ _ | refine bA ?_ _ | refine bD ?_ | refine bN ?_ _)⟩
  · have e : plS len n = n := if_neg (by omega)
    rw [e]; clear e
    go_enter Try.func38, Try.ntmps38
    go_wp2
    go_ret
    exact ⟨rfl, by repeat (first | exact Below.refl _ _ | refine bG ?_ _ | refine bI ?_ _ _ | refine bA ?_ _ | refine bD ?_ | refine bN ?_ _)⟩
set_option maxHeartbeats 1000000 in
theorem refPlace_any (v0 v1 v3 v4 v5 : Value) (p : Option Addr) (len cap : Nat) (n : Int) (w : World) :
    Calls Try.prog 41 #[.agg #[v0, v1, .slice p len cap, v3, v4, v5], .int .i64 n] w fun e w' => e = .returned (.int .i64 (plS len n)) ∧ Below w.heap.size w w' := by
  by_cases h0 : n < 0
  · have e : plS len n = -1 := if_pos (Or.inl h0)
    rw [e]; clear e
    go_enter Try.func41, Try.ntmps41
    go_wp2
    go_ret
    exact ⟨rfl, by repeat (first | exact Below.refl _ _ | refine bG ?_ _ | refine bI ?_ _ _ | refine bA ?_ _ | refine bD ?_ | refine bN ?_ _)⟩
  by_cases h1 : (len : Int) ≤ n
  · have e : plS len n = -1 := if_pos (Or.inr h1)
    rw [e]; clear e
    go_enter Try.func41, Try.ntmps41
    go_wp2
    go_ret
    exact ⟨rfl, by repeat (first | exact Below.refl _ _ | refine bG ?_ _ | refine bI ?_ _ _ | refine bA ?_ _ | refine bD ?_ | refine bN ?_ _)⟩
  · have e : plS len n = n := if_neg (by omega)
    rw [e]; clear e
    go_enter Try.func41, Try.ntmps41
    go_wp2
    go_ret
    exact ⟨rfl, by repeat (first | exact Below.refl _ _ | refine bG ?_ _ | refine bI ?_ _ _ | refine bA ?_ _ | refine bD ?_ | refine bN ?_ _)⟩
set_option maxHeartbeats 1000000 in
theorem few_any (v0 v1 v3 v4 v5 : Value) (p : Option Addr) (len cap : Nat) (w : World) :
    Calls Try.prog 22 #[.agg #[v0, v1, .slice p len cap, v3, v4, v5]] w fun e w' => e = .returned (.bool (decide ((len : Int) ≤ 40))) ∧ Below w.heap.size w w' := by
  go_enter Try.func22, Try.ntmps22
  go_wp2
  go_ret
  exact ⟨rfl, by repeat (first | exact Below.refl _ _ | refine bG ?_ _ | refine bI ?_ _ _ | refine bA ?_ _ | refine bD ?_ | refine bN ?_ _)⟩
theorem i64_and63 (n : Nat) (h : n < 64) : bits .and .i64 (n : Int) 63 = (n : Int) := by
  have : ∀ k : Fin 64, bits .and .i64 ((k.val : Nat) : Int) 63 = ((k.val : Nat) : Int) := by decide +kernel
  exact this ⟨n, h⟩
theorem has_bit (s n : Nat) (hs : s < 18446744073709551616) : (bits .and .u64 ((s : Int) / 2 ^ n) 1 == 1) = s.testBit n := by
  have e : ((s : Int) / 2 ^ n) = ((s / 2 ^ n : Nat) : Int) := by push_cast; rfl
  have hd : s / 2 ^ n < 18446744073709551616 := Nat.lt_of_le_of_lt (Nat.div_le_self _ _) hs
  have h1 := u64_and_nat (s / 2 ^ n) 1 hd (by decide)
  rw [e]
  rw [show ((1 : Nat) : Int) = (1 : Int) from rfl] at h1
  rw [h1, Nat.testBit_eq_decide_div_mod_eq, Nat.and_one_is_mod]
  by_cases h : s / 2 ^ n % 2 = 1
  · simp [h]
  · have : s / 2 ^ n % 2 = 0 := by omega
    simp [this]
set_option maxHeartbeats 1000000 in
theorem sethas_any (b o cap s n : Nat) (hs : s < 18446744073709551616) (hn : n < 64) (w : World) (hc : w.cell? ⟨b, o, none⟩ = some (.int .u64 s)) :
    Calls Try.prog 45 #[.slice (some ⟨b, o, none⟩) 1 cap, .int .i64 n] w fun e w' => e = .returned (.bool (s.testBit n)) ∧ w = w' := by
  have hd : n / 64 = 0 := by omega
  have hd2 : (n : Int) / 64 = 0 := by omega
  have h63 := i64_and63 n hn
  go_enter Try.func45, Try.ntmps45
  go_wp2
  go_ret
  exact ⟨by rw [← has_bit s n hs]; rfl, rfl⟩
theorem two_pow_lt (n : Nat) (hn : n < 64) : 2 ^ n < 18446744073709551616 := Nat.lt_of_lt_of_le (Nat.pow_lt_pow_right (by decide) hn) (by decide)
theorem or_bit (s n : Nat) (hs : s < 18446744073709551616) (hn : n < 64) : bits .or .u64 (s : Int) (IntKind.u64.wrap (2 ^ n)) = ((s ||| 2 ^ n : Nat) : Int) := by
  have h2 := two_pow_lt n hn
  have e : IntKind.u64.wrap (2 ^ n) = ((2 ^ n : Nat) : Int) := by
    have : (2 : Int) ^ n = ((2 ^ n : Nat) : Int) := by push_cast; rfl
    rw [this]
    simp only [IntKind.wrap, IntKind.signed, IntKind.bits]
    generalize 2 ^ n = m at *
    simp; omega
  rw [e, u64_or_nat s (2 ^ n) hs h2]
theorem or_lt (s n : Nat) (hs : s < 18446744073709551616) (hn : n < 64) : s ||| 2 ^ n < 18446744073709551616 :=
  Nat.or_lt_two_pow (n := 64) hs (two_pow_lt n hn)
set_option maxHeartbeats 1000000 in
theorem setput_any (b o cap s n : Nat) (hs : s < 18446744073709551616) (hn : n < 64) (w : World) (hc : w.cell? ⟨b, o, none⟩ = some (.int .u64 s)) (hf : w.frozen? ⟨b, o, none⟩ = false) :
    Calls Try.prog 57 #[.slice (some ⟨b, o, none⟩) 1 cap, .int .i64 n] w fun e w' => e = .returned (.tuple #[]) ∧ w' = (w.setCell ⟨b, o, none⟩ (.int .u64 (s ||| 2 ^ n : Nat))).drew := by
  have hd : n / 64 = 0 := by omega
  have hd2 : (n : Int) / 64 = 0 := by omega
  have h63 := i64_and63 n hn
  go_enter Try.func57, Try.ntmps57
  go_wp2
  go_region
  go_end0
  exact ⟨rfl, by rw [← or_bit s n hs hn]⟩
theorem and_lt (s t : Nat) (hs : s < 18446744073709551616) : s &&& t < 18446744073709551616 := Nat.lt_of_le_of_lt Nat.and_le_left hs
set_option maxHeartbeats 1000000 in
theorem setcut_any (b o cap s b2 o2 cap2 t : Nat) (hs : s < 18446744073709551616) (ht : t < 18446744073709551616) (w : World) (hc : w.cell? ⟨b, o, none⟩ = some (.int .u64 s)) (hf : w.frozen? ⟨b, o, none⟩ = false) (hc2 : w.cell? ⟨b2, o2, none⟩ = some (.int .u64 t)) :
    Calls Try.prog 60 #[.slice (some ⟨b, o, none⟩) 1 cap, .slice (some ⟨b2, o2, none⟩) 1 cap2] w fun e w' => e = .returned (.tuple #[]) ∧ w' = (w.setCell ⟨b, o, none⟩ (.int .u64 (s &&& t : Nat))).drew := by
  have ha := u64_and_nat s t hs ht
  have Ha := hid ha
  clear ha
  go_enter Try.func60, Try.ntmps60
  go_wp2
  refine wp_loop_rounds 2 ?_
  rw [rounds_succ]
  go_wp2
  go_region
  go_wp2
  rw [rounds_succ]
  go_wp2
  go_end0
  exact ⟨rfl, by rw [← Ha.out]⟩
/-- How many places below n a set has. -/
def manyS (s n : Nat) : Nat := ((List.range n).filter fun i => s.testBit i).length
theorem manyS_succ (s n : Nat) : manyS s (n + 1) = manyS s n + if s.testBit n = true then 1 else 0 := by
  unfold manyS
  rw [List.range_succ, List.filter_append, List.length_append]
  by_cases h : s.testBit n = true <;> simp [h]
theorem manyS_le (s n : Nat) : manyS s n ≤ n := by
  unfold manyS; exact Nat.le_trans (List.length_filter_le _ _) (by simp)
set_option maxHeartbeats 1000000 in
theorem setmany_any (b o cap s n : Nat) (hs : s < 18446744073709551616) (hn : n ≤ 64) (w : World) (hc : w.cell? ⟨b, o, none⟩ = some (.int .u64 s)) :
    Calls Try.prog 46 #[.slice (some ⟨b, o, none⟩) 1 cap, .int .i64 n] w fun e w' => e = .returned (.int .i64 (manyS s n)) ∧ w = w' := by
  go_enter Try.func46, Try.ntmps46
  go_wp2
  go_loop [5, 6, 8] (fun c _ i => ∃ k : Nat, k ≤ n ∧ i = .int .i64 k ∧ c = .int .i64 (manyS s k)) (fun _ _ i => n - (intOf i).toNat)
  case atStart => exact ⟨0, by omega, rfl, rfl⟩
  case round =>
    obtain ⟨k, hk, rfl, rfl⟩ := hrel
    have hm := manyS_le s k
    have hsu := manyS_succ s k
    have Hsu := hid hsu
    clear hsu
    by_cases hlt : k < n
    · cases hb : s.testBit k
      · go_wp2_with (go_at_call 45; refine (sethas_any b o cap s k hs (by omega) _ hc).mono ?_; rintro e w2 ⟨rfl, rfl⟩)
        go_round
        case rel => exact ⟨k + 1, by omega, by go_num, by rw [Hsu.out, hb]; rfl⟩
        case measure => simp [intOf]; omega
      · go_wp2_with (go_at_call 45; refine (sethas_any b o cap s k hs (by omega) _ hc).mono ?_; rintro e w2 ⟨rfl, rfl⟩)
        go_round
        case rel => exact ⟨k + 1, by omega, by go_num, by rw [Hsu.out, hb]; go_num⟩
        case measure => simp [intOf]; omega
    · obtain rfl : k = n := by omega
      go_wp2
      go_ret
      exact ⟨rfl, rfl⟩
end Go.Proofs.Ytjocifamacpamaa
