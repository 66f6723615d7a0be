/- Package instr: the number's row. Conditions: none. -/
import Derived.Test.YtjocifamacpamaaDoorInstrA
import Derived.Test.YtjocifamacpamaaDoorShelf
namespace Go.Proofs.YtjocifamacpamaaDoor
open Go.RowKit

set_option maxHeartbeats 1000000 in
theorem rows_at (k : Nat) (h : k < 64) (w : World) : (Instr.index 92 (.agg rowsC) (.int .i64 k)).run Tryd.prog w = .ok (.agg #[.string (nmN k), .string (fmN k)]) w := by
  match k, h with
  | 0, _ => show _ = _; kernel_rfl
  | 1, _ => show _ = _; kernel_rfl
  | 2, _ => show _ = _; kernel_rfl
  | 3, _ => show _ = _; kernel_rfl
  | 4, _ => show _ = _; kernel_rfl
  | 5, _ => show _ = _; kernel_rfl
  | 6, _ => show _ = _; kernel_rfl
  | 7, _ => show _ = _; kernel_rfl
  | 8, _ => show _ = _; kernel_rfl
  | 9, _ => show _ = _; kernel_rfl
  | 10, _ => show _ = _; kernel_rfl
  | 11, _ => show _ = _; kernel_rfl
  | 12, _ => show _ = _; kernel_rfl
  | 13, _ => show _ = _; kernel_rfl
  | 14, _ => show _ = _; kernel_rfl
  | 15, _ => show _ = _; kernel_rfl
  | 16, _ => show _ = _; kernel_rfl
  | 17, _ => show _ = _; kernel_rfl
  | 18, _ => show _ = _; kernel_rfl
  | 19, _ => show _ = _; kernel_rfl
  | 20, _ => show _ = _; kernel_rfl
  | 21, _ => show _ = _; kernel_rfl
  | 22, _ => show _ = _; kernel_rfl
  | 23, _ => show _ = _; kernel_rfl
  | 24, _ => show _ = _; kernel_rfl
  | 25, _ => show _ = _; kernel_rfl
  | 26, _ => show _ = _; kernel_rfl
  | 27, _ => show _ = _; kernel_rfl
  | 28, _ => show _ = _; kernel_rfl
  | 29, _ => show _ = _; kernel_rfl
  | 30, _ => show _ = _; kernel_rfl
  | 31, _ => show _ = _; kernel_rfl
  | 32, _ => show _ = _; kernel_rfl
  | 33, _ => show _ = _; kernel_rfl
  | 34, _ => show _ = _; kernel_rfl
  | 35, _ => show _ = _; kernel_rfl
  | 36, _ => show _ = _; kernel_rfl
  | 37, _ => show _ = _; kernel_rfl
  | 38, _ => show _ = _; kernel_rfl
  | 39, _ => show _ = _; kernel_rfl
  | 40, _ => show _ = _; kernel_rfl
  | 41, _ => show _ = _; kernel_rfl
  | 42, _ => show _ = _; kernel_rfl
  | 43, _ => show _ = _; kernel_rfl
  | 44, _ => show _ = _; kernel_rfl
  | 45, _ => show _ = _; kernel_rfl
  | 46, _ => show _ = _; kernel_rfl
  | 47, _ => show _ = _; kernel_rfl
  | 48, _ => show _ = _; kernel_rfl
  | 49, _ => show _ = _; kernel_rfl
  | 50, _ => show _ = _; kernel_rfl
  | 51, _ => show _ = _; kernel_rfl
  | 52, _ => show _ = _; kernel_rfl
  | 53, _ => show _ = _; kernel_rfl
  | 54, _ => show _ = _; kernel_rfl
  | 55, _ => show _ = _; kernel_rfl
  | 56, _ => show _ = _; kernel_rfl
  | 57, _ => show _ = _; kernel_rfl
  | 58, _ => show _ = _; kernel_rfl
  | 59, _ => show _ = _; kernel_rfl
  | 60, _ => show _ = _; kernel_rfl
  | 61, _ => show _ = _; kernel_rfl
  | 62, _ => show _ = _; kernel_rfl
  | 63, _ => show _ = _; kernel_rfl
  | k + 64, h => exact absurd h (by omega)

def nmI (n : Int) : ByteArray := if 0 ≤ n then nmN n.toNat else ⟨#[]⟩
def fmI (n : Int) : ByteArray := if 0 ≤ n then fmN n.toNat else ⟨#[]⟩
theorem nmN_big (k : Nat) (h : 63 ≤ k) : nmN k = ⟨#[]⟩ := by unfold nmN; split <;> first | rfl | (exfalso; omega)
theorem fmN_big (k : Nat) (h : 63 ≤ k) : fmN k = ⟨#[]⟩ := by unfold fmN; split <;> first | rfl | (exfalso; omega)
theorem nmI_out (n : Int) (h : n < 0 ∨ 63 ≤ n) : nmI n = ⟨#[]⟩ := by
  unfold nmI; split
  · exact nmN_big _ (by omega)
  · rfl
theorem fmI_out (n : Int) (h : n < 0 ∨ 63 ≤ n) : fmI n = ⟨#[]⟩ := by
  unfold fmI; split
  · exact fmN_big _ (by omega)
  · rfl

set_option maxHeartbeats 1000000 in
theorem of_any (n : Int) (w : World) :
    Calls Tryd.prog 23 #[.int .i64 n] w fun e w' => e = .returned (.agg #[.string (nmI n), .string (fmI n)]) ∧ Below w.heap.size w w' := by
  by_cases h0 : n < 0
  · rw [nmI_out n (Or.inl h0), fmI_out n (Or.inl h0)]
    go_enter Tryd.func23, Tryd.ntmps23
    go_wp2
    exact bodyPost_ret (v := .agg #[.string ⟨#[]⟩, .string ⟨#[]⟩]) (by simp [results, Tryd.results23, go_sem]) rfl ⟨rfl, bA (Below.refl _ _) _⟩
  by_cases h1 : 64 ≤ n
  · rw [nmI_out n (Or.inr (by omega)), fmI_out n (Or.inr (by omega))]
    go_enter Tryd.func23, Tryd.ntmps23
    go_wp2
    exact bodyPost_ret (v := .agg #[.string ⟨#[]⟩, .string ⟨#[]⟩]) (by simp [results, Tryd.results23, go_sem]) rfl ⟨rfl, bA (Below.refl _ _) _⟩
  obtain ⟨k, rfl⟩ := Int.eq_ofNat_of_zero_le (by omega : 0 ≤ n)
  have hix := rows_at k (by omega)
  have e1 : nmI (k : Int) = nmN k := by simp [nmI]
  have e2 : fmI (k : Int) = fmN k := by simp [fmI]
  rw [e1, e2]
  generalize nmN k = N at *
  generalize fmN k = F at *
  clear e1 e2
  go_enter Tryd.func23, Tryd.ntmps23
  go_wp2_with (go_at_call 33; refine (rows_any _).mono ?_; rintro e w' ⟨rfl, hb⟩; obtain ⟨g, rfl⟩ := bout hb; clear hb)
  exact bodyPost_ret (v := .agg #[.string N, .string F]) (by simp [results, Tryd.results23, go_sem]) rfl ⟨rfl, by repeat (first | exact Below.refl _ _ | refine bG ?_ _ | refine bI ?_ _ _ | refine bA ?_ _)⟩

@[go_sem] theorem fld_77_0 (x y : Value) (w : World) : (Instr.field 77 (.agg #[x, y]) 0).run Tryd.prog w = .ok x w := by kernel_rfl
@[go_sem] theorem fld_77_1 (x y : Value) (w : World) : (Instr.field 77 (.agg #[x, y]) 1).run Tryd.prog w = .ok y w := by kernel_rfl

set_option maxHeartbeats 1000000 in
theorem name_any (n : Int) (w : World) :
    Calls Tryd.prog 12 #[.int .i64 n] w fun e w' => e = .returned (.string (nmI n)) ∧ Below w.heap.size w w' := by
  go_enter Tryd.func12, Tryd.ntmps12
  go_wp2_with (go_at_call 23; refine (of_any _ _).mono ?_; rintro e w' ⟨rfl, hb⟩; obtain ⟨g, rfl⟩ := bout hb; clear hb)
  go_ret
  exact ⟨rfl, by repeat (first | exact Below.refl _ _ | refine bG ?_ _ | refine bI ?_ _ _ | refine bA ?_ _)⟩
set_option maxHeartbeats 1000000 in
theorem form_any (n : Int) (w : World) :
    Calls Tryd.prog 13 #[.int .i64 n] w fun e w' => e = .returned (.string (fmI n)) ∧ Below w.heap.size w w' := by
  go_enter Tryd.func13, Tryd.ntmps13
  go_wp2_with (go_at_call 23; refine (of_any _ _).mono ?_; rintro e w' ⟨rfl, hb⟩; obtain ⟨g, rfl⟩ := bout hb; clear hb)
  go_ret
  exact ⟨rfl, by repeat (first | exact Below.refl _ _ | refine bG ?_ _ | refine bI ?_ _ _ | refine bA ?_ _)⟩
end Go.Proofs.YtjocifamacpamaaDoor
