/- A part of the proof. Conditions: none. -/
import Derived.Test.YtbgjanmheagilaaGreatDoorZz
import Derived.Test.YtbgjanmheagilaaGreatDoorMpX
import Derived.Test.YtbgjanmheagilaaGreatDoorNqX
set_option linter.unusedVariables false
set_option linter.unusedSimpArgs false
set_option maxRecDepth 100000
set_option maxHeartbeats 8000000
namespace Go.Proofs.YtbgjanmheagilaaGreatDoor
open Go Go.RowKit Go.Am
noncomputable def l11 (f:Nat) (vs:List Value):Option Value:=match vs with
 |[.string s]=>bif Nat.beq f 123 && Nat.ble s.size 1000 then some (.bool (cr s.data.toList)) else none
 |[.int .i64 n]=>bif Nat.beq f 127 && decide (0≤n) && decide (n≤1000000) then some (.string ⟨(Lib.itoa n).toArray⟩) else none
 |_=>l6 f vs
noncomputable def ahn:Hk:=⟨rJ,fun _ _=>none,l11⟩
theorem AH (W0:World) (hl:bu W0):Plain Tryz.prog ahn W0 where
 x:=mY
 z:=fun f vs v h=>by cases h
 l:=fun f vs v h=>by
  change l11 f vs=some v at h;unfold l11 at h;split at h
  ·rename_i s;cases hb:(Nat.beq f 123 && Nat.ble s.size 1000) with
   |false=>rw [hb] at h;cases h
   |true=>
    rw [hb] at h;cases h;simp only [Bool.and_eq_true] at hb;have:=Nat.eq_of_beq_eq_true hb.1;subst this;have h2:=Nat.le_of_ble_eq_true hb.2;exact⟨rfl,rfl,fun w hw=>vA s aa w (bu.later hl hw)⟩
  ·rename_i n;cases hb:(Nat.beq f 127 && decide (0≤n) && decide (n≤1000000)) with
   |false=>rw [hb] at h;cases h
   |true=>
    rw [hb] at h;cases h;simp only [Bool.and_eq_true,decide_eq_true_eq] at hb;have:=Nat.eq_of_beq_eq_true hb.1.1;subst this;exact⟨rfl,rfl,fun w hw=>jF n aa aa w (bu.later hl hw)⟩
  ·exact(Md W0).l f _ v h
end Go.Proofs.YtbgjanmheagilaaGreatDoor
/- A part of the proof. Conditions: none. -/
set_option maxRecDepth 100000
set_option maxHeartbeats 8000000
namespace Go.Proofs.YtbgjanmheagilaaGreatDoor
open Go Go.RowKit Go.Am
noncomputable def l14 (f:Nat) (vs:List Value):Option Value:=match vs with
 |[.string s,.string a]=>bif Nat.beq f 125 && Nat.ble s.size 1000 && Nat.ble a.size 1000 then some (.bool (wD s.data.toList a.data.toList)) else l11 f [.string s,.string a]
 |[.string s]=>bif Nat.beq f 126 && Nat.ble s.size 1000 then some (lJ (dY s.data.toList)) else l11 f [.string s]
 |vs=>l11 f vs
noncomputable def aei:Hk:=⟨rJ,fun _ _=>none,l14⟩
theorem Ui (o:Option Nat):eu 3 (lJ o)=true:=by cases o<;>rfl
theorem Uj (W0:World) (hl:bu W0):Plain Tryz.prog aei W0 where
 x:=mY
 z:=fun f vs v h=>by cases h
 l:=fun f vs v h=>by
  change l14 f vs=some v at h;unfold l14 at h;split at h
  ·rename_i s a;cases hb:(Nat.beq f 125 && Nat.ble s.size 1000 && Nat.ble a.size 1000) with
   |false=>rw [hb] at h;exact(AH W0 hl).l f _ v h
   |true=>
    rw [hb] at h;cases h;simp only [Bool.and_eq_true] at hb;have:=Nat.eq_of_beq_eq_true hb.1.1;subst this;have h1:=Nat.le_of_ble_eq_true hb.1.2;have h2:=Nat.le_of_ble_eq_true hb.2;exact⟨rfl,rfl,fun w hw=>kG s a aa h2 w (bu.later hl hw)⟩
  ·rename_i s;cases hb:(Nat.beq f 126 && Nat.ble s.size 1000) with
   |false=>rw [hb] at h;exact(AH W0 hl).l f _ v h
   |true=>
    rw [hb] at h;cases h;simp only [Bool.and_eq_true] at hb;have:=Nat.eq_of_beq_eq_true hb.1;subst this;have h1:=Nat.le_of_ble_eq_true hb.2;exact⟨rfl,Ui _,fun w hw=>od s aa w⟩
  ·exact(AH W0 hl).l f _ v h
theorem aaM:Gp Tryz.prog aei 400 8 #[] isTrue=true:=by kernel_rfl
theorem TV (w:World) (hl:bu w):Calls Tryz.prog 8 #[] w fun e w'=>e=.returned (.bool true)∧Below w.heap.size w w':=
 (sw ak w (Uj w hl) aaM rfl).mono fun e w' ⟨v,v',E,h1,h2,h3,h4⟩=>by
  refine⟨?_,h4⟩;cases v<;>simp [isTrue] at h1
  subst h1;cases h3;exact h2
end Go.Proofs.YtbgjanmheagilaaGreatDoor