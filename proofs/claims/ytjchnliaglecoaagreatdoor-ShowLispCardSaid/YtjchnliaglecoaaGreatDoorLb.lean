/- What is known of the library's variables; short functions. Conditions: none. -/
import Derived.Lib.LaidTab
import Derived.Lib.AppendIntMem
import Derived.Test.YtjchnliaglecoaaGreatDoorNqX
import Derived.Test.YtjchnliaglecoaaGreatDoorLfI
set_option linter.unusedVariables false
set_option linter.unusedSimpArgs false
namespace Go.Proofs.YtjchnliaglecoaaGreatDoor
open Go Go.RowKit
set_option linter.unusedVariables false
set_option linter.unusedSimpArgs false
/-- The library's variables hold what the program's text lays into them. -/
structure Lib0 (w : World) : Prop where
  pow : Lib.TabIs Tryz.prog w "internal/strconv.uint64pow10" .u64 Lib.pow10Tab
  asc : Lib.TabIs Tryz.prog w "strings.asciiSpace" .u8 Lib.asciiSpaceTab
  max : ∃ m, w.cell? ⟨0, 0, none⟩ = some (.int .i64 m)
theorem var_below {w w' : World} {name : String} {cs : Array Value} (h : w.var? Tryz.prog name = some cs) (hb : Below w.heap.size w w') : w'.var? Tryz.prog name = some cs := by
  unfold World.var? at *
  cases hg : Tryz.prog.globalNamed name with
  | none => rw [hg] at h; cases h
  | some g =>
    rw [hg] at h
    simp only [Option.bind_some] at h ⊢
    have hlt : g < w.heap.size := by
      rcases Nat.lt_or_ge g w.heap.size with h' | h'
      · exact h'
      · rw [Array.getElem?_eq_none h'] at h; cases h
    rw [hb.block g hlt]; exact h
theorem Lib0.later {w w' : World} (h : Lib0 w) (hb : Below w.heap.size w w') : Lib0 w' :=
  ⟨var_below h.pow hb, var_below h.asc hb, let ⟨m, hm⟩ := h.max; ⟨m, cell_later hb hm⟩⟩
def thrown : List PanicEntry := [{ v := .iface 170 (.agg #[]), recovered := false }]
theorem must_yes (w : World) : Calls Tryz.prog 139 #[.bool true] w fun e w' => e = .returned (.tuple #[]) ∧ w' = w := by
  go_enter Tryz.func139, Tryz.ntmps139
  go_wp2
  go_end0
  exact ⟨rfl, rfl⟩
theorem must_no (w : World) : Calls Tryz.prog 139 #[.bool false] w fun e w' => e = .panicked thrown ∧ w' = w := by
  go_enter Tryz.func139, Tryz.ntmps139
  go_wp2
  exact ⟨rfl, rfl, rfl⟩
/-- What a check ends in. -/
def must_end (b : Bool) : Ending := if b then .returned (.tuple #[]) else .panicked thrown
theorem fmt_any (n : Int) (h0 : -9223372036854775808 ≤ n) (h1 : n ≤ 9223372036854775807) (w : World) (hl : Lib0 w) :
    Calls Tryz.prog 157 #[.int .i64 n, .int .i64 10] w fun e w' => e = .returned (.string ⟨(Lib.itoa n).toArray⟩) ∧ Below w.heap.size w w' :=
  (Tryz.strconv_FormatInt_10 n h0 h1 w hl.pow).mono fun e w' ⟨he, k, os, hw⟩ => ⟨he, by rw [hw]; exact Lib.below_grow _ _ (Nat.le_refl _) _ _⟩
theorem results_tmp4 {fn : Func} {t u v x : Tmp} (h : fn.results = #[.tmp t, .tmp u, .tmp v, .tmp x]) (tmps : Array Value) (P : Program) (w : World) :
    (results fn tmps).run P w = .ok (.tuple #[tmps.getD t undef, tmps.getD u undef, tmps.getD v undef, tmps.getD x undef]) w := by
  simp [results, h]
theorem show_any (n : Int) (h0 : -9223372036854775808 ≤ n) (h1 : n ≤ 9223372036854775807) (w : World) (hl : Lib0 w) :
    Calls Tryz.prog 184 #[.int .i64 n] w fun e w' => e = .returned (.string ⟨(Lib.itoa n).toArray⟩) ∧ Below w.heap.size w w' := by
  go_enter Tryz.func184, Tryz.ntmps184
  go_wp2_with (go_at_call 157; refine (fmt_any n h0 h1 _ hl).mono ?_; rintro e w' ⟨rfl, hb⟩; obtain ⟨g, rfl⟩ := bout hb; clear hb)
  go_ret
  exact ⟨rfl, bG (Below.refl _ _) _⟩
theorem rshow_any (n : Int) (h0 : -9223372036854775808 ≤ n) (h1 : n ≤ 9223372036854775807) (w : World) (hl : Lib0 w) :
    Calls Tryz.prog 107 #[.int .i64 n] w fun e w' => e = .returned (.string ⟨(Lib.itoa n).toArray⟩) ∧ Below w.heap.size w w' := by
  go_enter Tryz.func107, Tryz.ntmps107
  go_wp2_with (go_at_call 157; refine (fmt_any n h0 h1 _ hl).mono ?_; rintro e w' ⟨rfl, hb⟩; obtain ⟨g, rfl⟩ := bout hb; clear hb)
  go_ret
  exact ⟨rfl, bG (Below.refl _ _) _⟩
theorem sorts_any (k : Nat) (hk : k < 37) (w : World) : Calls Tryz.prog 226 #[.int .i64 (k : Int)] w fun e w' => e = .returned (.string ⟨(sortsS k).toArray⟩) ∧ Below w.heap.size w w' := tab1 sorts_tab k hk w
theorem has_letter : ((List.range 37).all fun k => Nat.beq k 0 || letters.all fun c => decide (decide (0 ≤ Lib.indexByte (sortsS k) c.toUInt8) = isS k c)) = true := by decide +kernel
theorem good_any (k c : Nat) (h0 : 0 < k) (hk : k < 37) (hc : c ∈ letters) (w : World) : Calls Tryz.prog 180 #[.int .i64 (k : Int), .int .i32 (c : Int)] w fun e w' => e = .returned (.bool (isS k c)) ∧ Below w.heap.size w w' := by
  have h1 := List.all_eq_true.1 has_letter k (List.mem_range.2 hk)
  rw [show Nat.beq k 0 = false by cases e : Nat.beq k 0 with
    | true => have := Nat.eq_of_beq_eq_true e; omega
    | false => rfl] at h1
  simp only [Bool.false_or] at h1
  have h2 := of_decide_eq_true (List.all_eq_true.1 h1 c hc)
  have hc2 : c < 128 := by
    have : letters.all (fun c => decide (c < 128)) = true := by decide
    exact of_decide_eq_true (List.all_eq_true.1 this c hc)
  have H2 := hid h2
  clear h1 h2 hc
  go_enter Tryz.func180, Tryz.ntmps180
  go_wp2_with (first
    | (go_at_call 226; refine (sorts_any k hk _).mono ?_; rintro e w' ⟨rfl, hb⟩; obtain ⟨g1, rfl⟩ := bout hb; clear hb)
    | (go_at_call 225; refine (Tryz.strings_ContainsRune_ascii _ _ _ (by omega) (by omega)).mono ?_; rintro e w' ⟨rfl, rfl⟩))
  go_ret
  refine ⟨?_, bG (Below.refl _ _) _⟩
  rw [← H2.out]
  simp
theorem is_any (k c : Nat) (h0 : 0 < k) (hk : k < 37) (hc : c ∈ letters) (w : World) : Calls Tryz.prog 113 #[.int .i64 (k : Int), .int .u8 (c : Int)] w fun e w' => e = .returned (.bool (isS k c)) ∧ Below w.heap.size w w' := by
  have h1 := List.all_eq_true.1 is_tab k (List.mem_range.2 hk)
  rw [show Nat.beq k 0 = false by cases e : Nat.beq k 0 with
    | true => have := Nat.eq_of_beq_eq_true e; omega
    | false => rfl] at h1
  simp only [Bool.false_or] at h1
  exact okAt_calls (List.all_eq_true.1 h1 c hc) w
theorem forms_any (w : World) : Calls Tryz.prog 89 #[] w fun e w' => e = .returned formsV ∧ Below w.heap.size w w' := okAt_calls forms_tab w
theorem shape_in (k : Nat) (hk : k < 37) (w : World) : Calls Tryz.prog 112 #[.int .i64 (k : Int)] w fun e w' => e = .returned (shapeV k) ∧ Below w.heap.size w w' := tab1 shape_tab k hk w
theorem shape_out (k : Int) (hk : k < 0 ∨ 36 < k) (w : World) : Calls Tryz.prog 112 #[.int .i64 k] w fun e w' => e = .returned (.tuple #[str [], str [], str [], .bool false]) ∧ Below w.heap.size w w' := by
  rcases hk with hk | hk
  all_goals
    go_enter Tryz.func112, Tryz.ntmps112
    go_wp2
    refine bodyPost_ret (results_tmp4 rfl _ _ _) rfl ?_
    exact ⟨rfl, Below.refl _ _⟩
end Go.Proofs.YtjchnliaglecoaaGreatDoor
