/- More lemmas for the walk: two growths are one; a step of a range over a text at whatever address. -/
import Derived.Laws.BitsAllLaws
import Derived.Test.YtjchnliaglecoaaGreatDoorBase
set_option linter.unusedVariables false
set_option linter.unusedSimpArgs false
namespace Go.Proofs.YtjchnliaglecoaaGreatDoor
open Go.RowKit
attribute [go_sem] grow_grow
theorem size_app (g h : Gro) : (g.app h).size = g.size + h.size := by simp [Gro.size, Gro.app]
@[go_sem] theorem and255 (x : Int) (h0 : 0 ≤ x) (h1 : x < 4294967296) : bits .and .u32 x 255 = x % 256 := by
  rw [u32_and x 255 h0 h1 (by decide) (by decide)]
  have : x.toNat &&& (255 : Int).toNat = x.toNat % 256 := Nat.and_two_pow_sub_one_eq_mod x.toNat 8
  rw [this]; omega
theorem next_at {P : Program} (s : ByteArray) (pos c wd : Nat) (h : pos < s.size) (hd : Utf8.decode s pos = (c, wd)) (W : World) (r : Nat) (ty : TypeId) (g : Gro) (hr : r = W.heap.size) :
    (Instr.next (.pointer (some ⟨r, 0, none⟩)) true ty).run P (grow (W.iter s pos) g) = .ok (.tuple #[.bool true, .int .i64 pos, .int .i32 c]) (grow (W.iter s (pos + wd)) g) := by
  subst hr; exact next_grow W s pos c wd ty g h hd
theorem next_at_end {P : Program} (s : ByteArray) (pos : Nat) (h : ¬ pos < s.size) (W : World) (r : Nat) (ty : TypeId) (g : Gro) (hr : r = W.heap.size) :
    (Instr.next (.pointer (some ⟨r, 0, none⟩)) true ty).run P (grow (W.iter s pos) g) = .ok (.tuple #[.bool false]) (grow (W.iter s pos) g) := by
  subst hr; exact next_grow_end W s pos ty g h
theorem next_new {P : Program} (s : ByteArray) (pos c wd : Nat) (h : pos < s.size) (hd : Utf8.decode s pos = (c, wd)) (W : World) (r : Nat) (ty : TypeId) (hr : r = W.heap.size) :
    (Instr.next (.pointer (some ⟨r, 0, none⟩)) true ty).run P (W.iter s pos) = .ok (.tuple #[.bool true, .int .i64 pos, .int .i32 c]) (W.iter s (pos + wd)) := by
  have := next_at (P := P) s pos c wd h hd W r ty ⟨#[], (W.iter s pos).drawn⟩ hr
  rw [show grow (W.iter s pos) ⟨#[], (W.iter s pos).drawn⟩ = W.iter s pos from grow_refl _, show grow (W.iter s (pos + wd)) ⟨#[], (W.iter s pos).drawn⟩ = W.iter s (pos + wd) from grow_refl _] at this
  exact this
theorem next_new_end {P : Program} (s : ByteArray) (pos : Nat) (h : ¬ pos < s.size) (W : World) (r : Nat) (ty : TypeId) (hr : r = W.heap.size) :
    (Instr.next (.pointer (some ⟨r, 0, none⟩)) true ty).run P (W.iter s pos) = .ok (.tuple #[.bool false]) (W.iter s pos) := by
  have := next_at_end (P := P) s pos h W r ty ⟨#[], (W.iter s pos).drawn⟩ hr
  rw [show grow (W.iter s pos) ⟨#[], (W.iter s pos).drawn⟩ = W.iter s pos from grow_refl _] at this
  exact this
theorem next_at_q {P : Program} (s : ByteArray) (pos c q : Nat) (h : pos < s.size) (hd : Utf8.decode s pos = (c, q - pos)) (hq : pos ≤ q) (W : World) (r : Nat) (ty : TypeId) (g : Gro) (hr : r = W.heap.size) :
    (Instr.next (.pointer (some ⟨r, 0, none⟩)) true ty).run P (grow (W.iter s pos) g) = .ok (.tuple #[.bool true, .int .i64 pos, .int .i32 c]) (grow (W.iter s q) g) := by
  have := next_at (P := P) s pos c (q - pos) h hd W r ty g hr
  rwa [show pos + (q - pos) = q by omega] at this
theorem next_new_q {P : Program} (s : ByteArray) (pos c q : Nat) (h : pos < s.size) (hd : Utf8.decode s pos = (c, q - pos)) (hq : pos ≤ q) (W : World) (r : Nat) (ty : TypeId) (hr : r = W.heap.size) :
    (Instr.next (.pointer (some ⟨r, 0, none⟩)) true ty).run P (W.iter s pos) = .ok (.tuple #[.bool true, .int .i64 pos, .int .i32 c]) (W.iter s q) := by
  have := next_new (P := P) s pos c (q - pos) h hd W r ty hr
  rwa [show pos + (q - pos) = q by omega] at this
end Go.Proofs.YtjchnliaglecoaaGreatDoor
