/- instr.Encode, walked. Conditions: none. -/
import Derived.Test.YtjocifamacpamaaDoorInstrB
namespace Go.Proofs.YtjocifamacpamaaDoor
open Go.RowKit
set_option maxHeartbeats 400000 in
theorem field_A (b : Nat) (w : World) :
    Calls Tryd.prog 14 #[.pointer (some ⟨b, 0, none⟩), .int .i32 65] w fun e w' => e = .returned (.tuple #[.int .i64 8, .int .i64 0, .int .i64 255, .pointer (some ⟨b, 1, none⟩)]) ∧ Below w.heap.size w w' := by
  go_enter Tryd.func14, Tryd.ntmps14
  go_wp2
  go_quiet (fail)
  go_wp2
  exact bodyPost_ret (v := .tuple #[.int .i64 8, .int .i64 0, .int .i64 255, .pointer (some ⟨b, 1, none⟩)]) (by simp [results, Tryd.results14, go_sem]) rfl ⟨rfl, bN (Below.refl _ _) _⟩
set_option maxHeartbeats 400000 in
theorem field_B (b : Nat) (w : World) :
    Calls Tryd.prog 14 #[.pointer (some ⟨b, 0, none⟩), .int .i32 66] w fun e w' => e = .returned (.tuple #[.int .i64 16, .int .i64 0, .int .i64 255, .pointer (some ⟨b, 2, none⟩)]) ∧ Below w.heap.size w w' := by
  go_enter Tryd.func14, Tryd.ntmps14
  go_wp2
  go_quiet (fail)
  go_wp2
  exact bodyPost_ret (v := .tuple #[.int .i64 16, .int .i64 0, .int .i64 255, .pointer (some ⟨b, 2, none⟩)]) (by simp [results, Tryd.results14, go_sem]) rfl ⟨rfl, bN (Below.refl _ _) _⟩
set_option maxHeartbeats 400000 in
theorem field_C (b : Nat) (w : World) :
    Calls Tryd.prog 14 #[.pointer (some ⟨b, 0, none⟩), .int .i32 67] w fun e w' => e = .returned (.tuple #[.int .i64 24, .int .i64 0, .int .i64 255, .pointer (some ⟨b, 3, none⟩)]) ∧ Below w.heap.size w w' := by
  go_enter Tryd.func14, Tryd.ntmps14
  go_wp2
  go_quiet (fail)
  go_wp2
  exact bodyPost_ret (v := .tuple #[.int .i64 24, .int .i64 0, .int .i64 255, .pointer (some ⟨b, 3, none⟩)]) (by simp [results, Tryd.results14, go_sem]) rfl ⟨rfl, bN (Below.refl _ _) _⟩
set_option maxHeartbeats 400000 in
theorem field_D (b : Nat) (w : World) :
    Calls Tryd.prog 14 #[.pointer (some ⟨b, 0, none⟩), .int .i32 68] w fun e w' => e = .returned (.tuple #[.int .i64 16, .int .i64 (-32768), .int .i64 32767, .pointer (some ⟨b, 4, none⟩)]) ∧ Below w.heap.size w w' := by
  go_enter Tryd.func14, Tryd.ntmps14
  go_wp2
  go_quiet (fail)
  go_wp2
  exact bodyPost_ret (v := .tuple #[.int .i64 16, .int .i64 (-32768), .int .i64 32767, .pointer (some ⟨b, 4, none⟩)]) (by simp [results, Tryd.results14, go_sem]) rfl ⟨rfl, bN (Below.refl _ _) _⟩

def hasB (s : ByteArray) (c : Int) : Bool := decide (0 ≤ Lib.indexByte s.data.toList c.toNat.toUInt8)
theorem con_any (s : ByteArray) (c : Int) (w : World) (h0 : 0 ≤ c) (h1 : c < 128) :
    Calls Tryd.prog 24 #[.string s, .int .i32 c] w fun e w' => e = .returned (.bool (hasB s c)) ∧ w = w' :=
  (Tryd.strings_ContainsRune_ascii s c w h0 h1).mono fun _ _ ⟨he, hw⟩ => ⟨he, hw.symm⟩

def orw (x y : Int) : Int := bits BinOp.or IntKind.u32 x y
def encRes : Option Int → Value
  | none => .tuple #[.int .u32 0, .int .i64 1]
  | some x => .tuple #[.int .u32 x, .int .i64 0]
def encD (F : ByteArray) (d x : Int) : Option Int :=
  if hasB F 68 = true then (if d < -32768 then none else if 32767 < d then none else some (orw x (IntKind.u16.wrap d % 4294967296 * 65536 % 4294967296))) else if (d != 0) = true then none else if d < -32768 then none else if 32767 < d then none else some x
def encC (F : ByteArray) (c d x : Int) : Option Int :=
  if hasB F 67 = true then (if c < 0 then none else if 255 < c then none else encD F d (orw x (c * 16777216))) else if (c != 0) = true then none else if c < 0 then none else if 255 < c then none else encD F d x
def encB (F : ByteArray) (b c d x : Int) : Option Int :=
  if hasB F 66 = true then (if b < 0 then none else if 255 < b then none else encC F c d (orw x (b * 65536))) else if (b != 0) = true then none else if b < 0 then none else if 255 < b then none else encC F c d x
def encA (F : ByteArray) (a b c d x : Int) : Option Int :=
  if hasB F 65 = true then (if a < 0 then none else if 255 < a then none else encB F b c d (orw x (a * 256))) else if (a != 0) = true then none else if a < 0 then none else if 255 < a then none else encB F b c d x
def encK (F : ByteArray) (a b c d : Int) : Nat → Int → Option Int
  | 0, x => encA F a b c d x
  | 1, x => encB F b c d x
  | 2, x => encC F c d x
  | 3, x => encD F d x
  | _, x => some x
def encS (n a b c d : Int) : Option Int := if (fmI n).toList.isEmpty = true then none else encA (fmI n) a b c d (n % 4294967296)

set_option maxHeartbeats 3200000 in
theorem encode_some (n a b c d : Int) (N F : ByteArray) (hN : N = nmI n) (hF : F = fmI n) (hE : F.toList.isEmpty = false) (R : Option Int) (hR : encK F a b c d 0 (n % 4294967296) = R) (w : World) :
    Calls Tryd.prog 11 #[.agg #[.int .i64 n, .int .i64 a, .int .i64 b, .int .i64 c, .int .i64 d]] w fun e w' => e = .returned (encRes R) ∧ Below w.heap.size w w' := by
  have HR := hid hR
  clear hR
  have hof := of_any n
  rw [← hN, ← hF] at hof
  have Hof := hid hof
  clear hof hN hF
  go_enter Tryd.func11, Tryd.ntmps11
  go_wp2_with (go_at_call 23; refine (Hof.out _).mono ?_; rintro e w' ⟨rfl, hb⟩; obtain ⟨g1, rfl⟩ := bout hb; clear hb)
  have hN0 := fun ty g => next_grow (P := Tryd.prog) ((grow (w.alloc (.cells #[.int .i64 n, .int .i64 a, .int .i64 b, .int .i64 c, .int .i64 d] 23)) g1).alloc (.cells #[.string N, .string F] 77)) ⟨#[65, 66, 67, 68]⟩ 0 65 1 ty g (by decide) (by decide)
  have hN1 := fun ty g => next_grow (P := Tryd.prog) ((grow (w.alloc (.cells #[.int .i64 n, .int .i64 a, .int .i64 b, .int .i64 c, .int .i64 d] 23)) g1).alloc (.cells #[.string N, .string F] 77)) ⟨#[65, 66, 67, 68]⟩ 1 66 1 ty g (by decide) (by decide)
  have hN2 := fun ty g => next_grow (P := Tryd.prog) ((grow (w.alloc (.cells #[.int .i64 n, .int .i64 a, .int .i64 b, .int .i64 c, .int .i64 d] 23)) g1).alloc (.cells #[.string N, .string F] 77)) ⟨#[65, 66, 67, 68]⟩ 2 67 1 ty g (by decide) (by decide)
  have hN3 := fun ty g => next_grow (P := Tryd.prog) ((grow (w.alloc (.cells #[.int .i64 n, .int .i64 a, .int .i64 b, .int .i64 c, .int .i64 d] 23)) g1).alloc (.cells #[.string N, .string F] 77)) ⟨#[65, 66, 67, 68]⟩ 3 68 1 ty g (by decide) (by decide)
  have hN4 := fun ty g => next_grow_end (P := Tryd.prog) ((grow (w.alloc (.cells #[.int .i64 n, .int .i64 a, .int .i64 b, .int .i64 c, .int .i64 d] 23)) g1).alloc (.cells #[.string N, .string F] 77)) ⟨#[65, 66, 67, 68]⟩ 4 ty g (by decide)
  simp at hN0 hN1 hN2 hN3 hN4
  go_loopw [2, 3, 5, 7, 8, 9, 10, 11, 12] (fun _ _ wd _ _ _ _ _ _ wr => ∃ (k : Nat) (x : Int) (g : Gro), k ≤ 4 ∧ Hid (encK F a b c d k x = R) ∧ wd = .int .u32 x ∧ wr = grow (((grow (w.alloc (.cells #[.int .i64 n, .int .i64 a, .int .i64 b, .int .i64 c, .int .i64 d] 23)) g1).alloc (.cells #[.string N, .string F] 77)).iter ⟨#[65, 66, 67, 68]⟩ k) g) (fun _ _ _ _ _ _ _ _ _ wr => 4 - wr.iterPos (w.heap.size + 1 + g1.size + 1))
  case atStart => exact ⟨0, _, _, by omega, HR, rfl, (grow_refl _).symm⟩
  case round =>
    clear HR
    obtain ⟨k, x, g, hk, HR, rfl, rfl⟩ := hrel
    match k, hk with
    | 0, _ =>
      go_wp2_with (first | (go_at_call 14; refine (field_A _ _).mono ?_; rintro e w2 ⟨rfl, hb⟩; obtain ⟨g2, rfl⟩ := bout hb; clear hb) | (go_at_call 24; refine (con_any _ _ _ (by decide) (by decide)).mono ?_; rintro e w2 ⟨rfl, rfl⟩))
      all_goals clear hN0 hN1 hN2 hN3 hN4
      all_goals first
        | (go_ret2
           have eR : none = R := by
             have h := HR.out
             simp only [encK, encA] at h
             repeat' split at h
             all_goals first | exact h | contradiction | omega | (exfalso; simp_all; done) | (exfalso; simp_all; omega)
           subst eR
           refine ⟨rfl, ?_⟩
           repeat (first | exact Below.refl _ _ | refine bG ?_ _ | refine bI ?_ _ _ | refine bA ?_ _))
        | (refine ⟨⟨1, _, _, by omega, ?_, rfl, grow_grow _ _ _⟩, ?_⟩
           · have h := HR.out
             simp only [encK, encA, orw] at h
             repeat' split at h
             all_goals first | exact h | contradiction | omega | (exfalso; simp_all; done) | (exfalso; simp_all; omega)
           · simp [grow_grow])
    | 1, _ =>
      go_wp2_with (first | (go_at_call 14; refine (field_B _ _).mono ?_; rintro e w2 ⟨rfl, hb⟩; obtain ⟨g2, rfl⟩ := bout hb; clear hb) | (go_at_call 24; refine (con_any _ _ _ (by decide) (by decide)).mono ?_; rintro e w2 ⟨rfl, rfl⟩))
      all_goals clear hN0 hN1 hN2 hN3 hN4
      all_goals first
        | (go_ret2
           have eR : none = R := by
             have h := HR.out
             simp only [encK, encB] at h
             repeat' split at h
             all_goals first | exact h | contradiction | omega | (exfalso; simp_all; done) | (exfalso; simp_all; omega)
           subst eR
           refine ⟨rfl, ?_⟩
           repeat (first | exact Below.refl _ _ | refine bG ?_ _ | refine bI ?_ _ _ | refine bA ?_ _))
        | (refine ⟨⟨2, _, _, by omega, ?_, rfl, grow_grow _ _ _⟩, ?_⟩
           · have h := HR.out
             simp only [encK, encB, orw] at h
             repeat' split at h
             all_goals first | exact h | contradiction | omega | (exfalso; simp_all; done) | (exfalso; simp_all; omega)
           · simp [grow_grow])
    | 2, _ =>
      go_wp2_with (first | (go_at_call 14; refine (field_C _ _).mono ?_; rintro e w2 ⟨rfl, hb⟩; obtain ⟨g2, rfl⟩ := bout hb; clear hb) | (go_at_call 24; refine (con_any _ _ _ (by decide) (by decide)).mono ?_; rintro e w2 ⟨rfl, rfl⟩))
      all_goals clear hN0 hN1 hN2 hN3 hN4
      all_goals first
        | (go_ret2
           have eR : none = R := by
             have h := HR.out
             simp only [encK, encC] at h
             repeat' split at h
             all_goals first | exact h | contradiction | omega | (exfalso; simp_all; done) | (exfalso; simp_all; omega)
           subst eR
           refine ⟨rfl, ?_⟩
           repeat (first | exact Below.refl _ _ | refine bG ?_ _ | refine bI ?_ _ _ | refine bA ?_ _))
        | (refine ⟨⟨3, _, _, by omega, ?_, rfl, grow_grow _ _ _⟩, ?_⟩
           · have h := HR.out
             simp only [encK, encC, orw] at h
             repeat' split at h
             all_goals first | exact h | contradiction | omega | (exfalso; simp_all; done) | (exfalso; simp_all; omega)
           · simp [grow_grow])
    | 3, _ =>
      go_wp2_with (first | (go_at_call 14; refine (field_D _ _).mono ?_; rintro e w2 ⟨rfl, hb⟩; obtain ⟨g2, rfl⟩ := bout hb; clear hb) | (go_at_call 24; refine (con_any _ _ _ (by decide) (by decide)).mono ?_; rintro e w2 ⟨rfl, rfl⟩))
      all_goals clear hN0 hN1 hN2 hN3 hN4
      all_goals first
        | (go_ret2
           have eR : none = R := by
             have h := HR.out
             simp only [encK, encD] at h
             repeat' split at h
             all_goals first | exact h | contradiction | omega | (exfalso; simp_all; done) | (exfalso; simp_all; omega)
           subst eR
           refine ⟨rfl, ?_⟩
           repeat (first | exact Below.refl _ _ | refine bG ?_ _ | refine bI ?_ _ _ | refine bA ?_ _))
        | (refine ⟨⟨4, _, _, by omega, ?_, rfl, grow_grow _ _ _⟩, ?_⟩
           · have h := HR.out
             simp only [encK, encD, orw] at h
             repeat' split at h
             all_goals first | exact h | contradiction | omega | (exfalso; simp_all; done) | (exfalso; simp_all; omega)
           · simp [grow_grow])
    | 4, _ =>
      go_wp2
      go_ret2
      refine ⟨?_, ?_⟩
      · have h := HR.out; simp only [encK] at h; subst h; rfl
      · repeat (first | exact Below.refl _ _ | refine bG ?_ _ | refine bI ?_ _ _ | refine bA ?_ _)
set_option maxHeartbeats 1000000 in
theorem encode_none (n a b c d : Int) (N F : ByteArray) (hN : N = nmI n) (hF : F = fmI n) (hE : F.toList.isEmpty = true) (w : World) :
    Calls Tryd.prog 11 #[.agg #[.int .i64 n, .int .i64 a, .int .i64 b, .int .i64 c, .int .i64 d]] w fun e w' => e = .returned (encRes none) ∧ Below w.heap.size w w' := by
  have hof := of_any n
  rw [← hN, ← hF] at hof
  have Hof := hid hof
  clear hof hN hF
  go_enter Tryd.func11, Tryd.ntmps11
  go_wp2_with (go_at_call 23; refine (Hof.out _).mono ?_; rintro e w' ⟨rfl, hb⟩; obtain ⟨g1, rfl⟩ := bout hb; clear hb)
  go_ret2
  exact ⟨rfl, by repeat (first | exact Below.refl _ _ | refine bG ?_ _ | refine bI ?_ _ _ | refine bA ?_ _)⟩
theorem encode_any (n a b c d : Int) (w : World) :
    Calls Tryd.prog 11 #[.agg #[.int .i64 n, .int .i64 a, .int .i64 b, .int .i64 c, .int .i64 d]] w fun e w' => e = .returned (encRes (encS n a b c d)) ∧ Below w.heap.size w w' := by
  by_cases h : (fmI n).toList.isEmpty = true
  · rw [show encS n a b c d = none by simp only [encS, if_pos h]]
    exact encode_none n a b c d _ _ rfl rfl h w
  · rw [show encS n a b c d = encK (fmI n) a b c d 0 (n % 4294967296) by simp only [encS, if_neg h, encK]]
    exact encode_some n a b c d _ _ rfl rfl (by simpa using h) _ rfl w
end Go.Proofs.YtjocifamacpamaaDoor
