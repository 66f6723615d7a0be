/- A part of the proof. Conditions: none. -/
import Derived.Test.YtjchnliaglecoaaGreatDoorZz
import Derived.Test.YtjchnliaglecoaaGreatDoorMpX
import Derived.Test.YtjchnliaglecoaaGreatDoorLbX
import Derived.Test.YtjchnliaglecoaaGreatDoorBqX
set_option linter.unusedVariables false
set_option linter.unusedSimpArgs false
set_option maxRecDepth 100000
set_option maxHeartbeats 8000000
namespace Go.Proofs.YtjchnliaglecoaaGreatDoor
open Go Go.RowKit Go.Am
noncomputable def l11 (f:Nat) (vs:List Value):Option Value:=match vs with
 |[.string s]=>bif Nat.beq f 134 && Nat.ble s.size 1000 then some (.bool (cY s.data.toList)) else none
 |[.int .i64 n]=>bif Nat.beq f 184 && decide (0≤n) && decide (n≤1000000) then some (.string ⟨(Lib.itoa n).toArray⟩) else none
 |_=>l6 f vs
noncomputable def ajN:Hk:=⟨qZ,fun _ _=>none,l11⟩
theorem zL (W0:World) (hl:cu W0):Plain Tryz.prog ajN W0 where
 x:=mL
 z:=fun f vs v h=>by cases h
 l:=fun f vs v h=>by
  change l11 f vs=some v at h;unfold l11 at h;split at h
  ·rename_i s;cases hb:(Nat.beq f 134 && Nat.ble s.size 1000) with
   |false=>rw [hb] at h;cases h
   |true=>
    rw [hb] at h;cases h;simp only [Bool.and_eq_true] at hb;have:=Nat.eq_of_beq_eq_true hb.1;subst this;have h2:=Nat.le_of_ble_eq_true hb.2;exact⟨rfl,rfl,fun w hw=>uw s aa w (cu.later hl hw)⟩
  ·rename_i n;cases hb:(Nat.beq f 184 && decide (0≤n) && decide (n≤1000000)) with
   |false=>rw [hb] at h;cases h
   |true=>
    rw [hb] at h;cases h;simp only [Bool.and_eq_true,decide_eq_true_eq] at hb;have:=Nat.eq_of_beq_eq_true hb.1.1;subst this;exact⟨rfl,rfl,fun w hw=>jY n aa aa w (cu.later hl hw)⟩
  ·exact(MN W0).l f _ v h
end Go.Proofs.YtjchnliaglecoaaGreatDoor
/- A part of the proof. Conditions: none. -/
set_option maxRecDepth 100000
set_option maxHeartbeats 8000000
namespace Go.Proofs.YtjchnliaglecoaaGreatDoor
open Go Go.RowKit Go.Am
noncomputable def l14 (f:Nat) (vs:List Value):Option Value:=match vs with
 |[.string s,.string a]=>bif Nat.beq f 182 && Nat.ble s.size 1000 && Nat.ble a.size 1000 then some (.bool (vN s.data.toList a.data.toList)) else l11 f [.string s,.string a]
 |[.string s]=>bif Nat.beq f 183 && Nat.ble s.size 1000 then some (lY (fy s.data.toList)) else l11 f [.string s]
 |vs=>l11 f vs
noncomputable def afJ:Hk:=⟨qZ,fun _ _=>none,l14⟩
theorem Xd (o:Option Nat):fD 3 (lY o)=true:=by cases o<;>rfl
theorem Rk (W0:World) (hl:cu W0):Plain Tryz.prog afJ W0 where
 x:=mL
 z:=fun f vs v h=>by cases h
 l:=fun f vs v h=>by
  change l14 f vs=some v at h;unfold l14 at h;split at h
  ·rename_i s a;cases hb:(Nat.beq f 182 && Nat.ble s.size 1000 && Nat.ble a.size 1000) with
   |false=>rw [hb] at h;exact(zL W0 hl).l f _ v h
   |true=>
    rw [hb] at h;cases h;simp only [Bool.and_eq_true] at hb;have:=Nat.eq_of_beq_eq_true hb.1.1;subst this;have h1:=Nat.le_of_ble_eq_true hb.1.2;have h2:=Nat.le_of_ble_eq_true hb.2;exact⟨rfl,rfl,fun w hw=>kN s a aa h2 w (cu.later hl hw)⟩
  ·rename_i s;cases hb:(Nat.beq f 183 && Nat.ble s.size 1000) with
   |false=>rw [hb] at h;exact(zL W0 hl).l f _ v h
   |true=>
    rw [hb] at h;cases h;simp only [Bool.and_eq_true] at hb;have:=Nat.eq_of_beq_eq_true hb.1;subst this;have h1:=Nat.le_of_ble_eq_true hb.2;exact⟨rfl,Xd _,fun w hw=>oN s aa w⟩
  ·exact(zL W0 hl).l f _ v h
end Go.Proofs.YtjchnliaglecoaaGreatDoor
/- A part of the proof. Conditions: none. -/
set_option maxRecDepth 100000
set_option maxHeartbeats 8000000
namespace Go.Proofs.YtjchnliaglecoaaGreatDoor
open Go Go.RowKit Go.Am
theorem afI:Ke Tryz.prog afJ Db 600 19 #[] isTrue=true:=by kernel_rfl
theorem aaG (w:World) (hl:cu w):Calls Tryz.prog 19 #[] w fun e w'=>e=.returned (.bool true)∧Below w.heap.size w w':=
 (AY ah w (Rk w hl) Gw afI rfl).mono fun e w' ⟨v,v',E,h1,h2,h3,h4⟩=>by
  refine⟨?_,h4⟩;cases v<;>simp [isTrue] at h1
  subst h1;cases h3;exact h2
end Go.Proofs.YtjchnliaglecoaaGreatDoor