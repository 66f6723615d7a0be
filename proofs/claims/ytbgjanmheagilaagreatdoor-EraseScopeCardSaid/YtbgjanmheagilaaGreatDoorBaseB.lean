/- A part of the proof. Conditions: none. -/
import Derived.Laws.BitsAllLaws
import Derived.Test.YtbgjanmheagilaaGreatDoorBase
set_option linter.unusedVariables false
set_option linter.unusedSimpArgs false
set_option maxRecDepth 100000
set_option maxHeartbeats 8000000
namespace Go.Proofs.YtbgjanmheagilaaGreatDoor
open Go.RowKit
attribute [go_sem] grow_grow
theorem tF {P:Program} (s:ByteArray) (pos c wd:Nat) (h:pos<s.size) (hd:Utf8.decode s pos=(c,wd)) (W:World) (r:Nat) (ty:TypeId) (g:eo) (hr:r=W.heap.size):
  (Instr.next (.pointer (some ⟨r,0,none⟩)) true ty).run P (grow (W.iter s pos) g)=.ok (.tuple #[.bool true,.int .i64 pos,.int .i32 c]) (grow (W.iter s (pos+wd)) g):=by
 subst hr;exact Ic W s pos c wd ty g h hd
theorem ji {P:Program} (s:ByteArray) (pos:Nat) (h:¬pos<s.size) (W:World) (r:Nat) (ty:TypeId) (g:eo) (hr:r=W.heap.size):
  (Instr.next (.pointer (some ⟨r,0,none⟩)) true ty).run P (grow (W.iter s pos) g)=.ok (.tuple #[.bool false]) (grow (W.iter s pos) g):=by
 subst hr;exact wN W s pos ty g h
theorem KV {P:Program} (s:ByteArray) (pos c wd:Nat) (h:pos<s.size) (hd:Utf8.decode s pos=(c,wd)) (W:World) (r:Nat) (ty:TypeId) (hr:r=W.heap.size):
  (Instr.next (.pointer (some ⟨r,0,none⟩)) true ty).run P (W.iter s pos)=.ok (.tuple #[.bool true,.int .i64 pos,.int .i32 c]) (W.iter s (pos+wd)):=by
 have:=tF (P:=P) s pos c wd h hd W r ty ⟨#[],(W.iter s pos).drawn⟩ hr;rw [show grow (W.iter s pos) ⟨#[],(W.iter s pos).drawn⟩=W.iter s pos from cW _,show grow (W.iter s (pos+wd)) ⟨#[],(W.iter s pos).drawn⟩=W.iter s (pos+wd) from cW _] at this;exact this
theorem pL {P:Program} (s:ByteArray) (pos:Nat) (h:¬pos<s.size) (W:World) (r:Nat) (ty:TypeId) (hr:r=W.heap.size):
  (Instr.next (.pointer (some ⟨r,0,none⟩)) true ty).run P (W.iter s pos)=.ok (.tuple #[.bool false]) (W.iter s pos):=by
 have:=ji (P:=P) s pos h W r ty ⟨#[],(W.iter s pos).drawn⟩ hr;rw [show grow (W.iter s pos) ⟨#[],(W.iter s pos).drawn⟩=W.iter s pos from cW _] at this;exact this
theorem jL {P:Program} (s:ByteArray) (pos c q:Nat) (h:pos<s.size) (hd:Utf8.decode s pos=(c,q - pos)) (hq:pos≤q) (W:World) (r:Nat) (ty:TypeId) (g:eo) (hr:r=W.heap.size):
  (Instr.next (.pointer (some ⟨r,0,none⟩)) true ty).run P (grow (W.iter s pos) g)=.ok (.tuple #[.bool true,.int .i64 pos,.int .i32 c]) (grow (W.iter s q) g):=by
 have:=tF (P:=P) s pos c (q - pos) h hd W r ty g hr
 rwa [show pos+(q - pos)=q by omega] at this
theorem En {P:Program} (s:ByteArray) (pos c q:Nat) (h:pos<s.size) (hd:Utf8.decode s pos=(c,q - pos)) (hq:pos≤q) (W:World) (r:Nat) (ty:TypeId) (hr:r=W.heap.size):
  (Instr.next (.pointer (some ⟨r,0,none⟩)) true ty).run P (W.iter s pos)=.ok (.tuple #[.bool true,.int .i64 pos,.int .i32 c]) (W.iter s q):=by
 have:=KV (P:=P) s pos c (q - pos) h hd W r ty hr
 rwa [show pos+(q - pos)=q by omega] at this
end Go.Proofs.YtbgjanmheagilaaGreatDoor