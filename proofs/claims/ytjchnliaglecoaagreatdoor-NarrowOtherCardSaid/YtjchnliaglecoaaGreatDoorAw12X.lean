/- A part of the proof. Conditions: none. -/
import Derived.Test.YtjchnliaglecoaaGreatDoorZz
import Derived.Test.YtjchnliaglecoaaGreatDoorMpX
import Derived.Test.YtjchnliaglecoaaGreatDoorLbX
set_option linter.unusedVariables false
set_option linter.unusedSimpArgs false
set_option maxRecDepth 100000
set_option maxHeartbeats 8000000
namespace Go.Proofs.YtjchnliaglecoaaGreatDoor
open Go Go.RowKit Go.Am
noncomputable def l11 (f:Nat) (vs:List Value):Option Value:=match vs with
 |[.string s]=>bif Nat.beq f 134 && Nat.ble s.size 1000 then some (.bool (dR s.data.toList)) else none
 |[.int .i64 n]=>bif Nat.beq f 184 && decide (0≤n) && decide (n≤1000000) then some (.string ⟨(Lib.itoa n).toArray⟩) else none
 |_=>l6 f vs
noncomputable def aq4:Hk:=⟨vt,fun _ _=>none,l11⟩
theorem Dy (W0:World) (hl:bZ W0):Plain Tryz.prog aq4 W0 where
 x:=qf
 z:=fun f vs v h=>by cases h
 l:=fun f vs v h=>by
  change l11 f vs=some v at h;unfold l11 at h;split at h
  ·rename_i s;cases hb:(Nat.beq f 134 && Nat.ble s.size 1000) with
   |false=>rw [hb] at h;cases h
   |true=>
    rw [hb] at h;cases h;simp only [Bool.and_eq_true] at hb;have:=Nat.eq_of_beq_eq_true hb.1;subst this;have h2:=Nat.le_of_ble_eq_true hb.2;exact⟨rfl,rfl,fun w hw=>yl s af w (bZ.later hl hw)⟩
  ·rename_i n;cases hb:(Nat.beq f 184 && decide (0≤n) && decide (n≤1000000)) with
   |false=>rw [hb] at h;cases h
   |true=>
    rw [hb] at h;cases h;simp only [Bool.and_eq_true,decide_eq_true_eq] at hb;have:=Nat.eq_of_beq_eq_true hb.1.1;subst this;exact⟨rfl,rfl,fun w hw=>nG n af af w (bZ.later hl hw)⟩
  ·exact(R7 W0).l f _ v h
end Go.Proofs.YtjchnliaglecoaaGreatDoor

/- A part of the proof. Conditions: none. -/
set_option maxRecDepth 100000
set_option maxHeartbeats 8000000
namespace Go.Proofs.YtjchnliaglecoaaGreatDoor
open Go Go.RowKit Go.Am
noncomputable def l14 (f:Nat) (vs:List Value):Option Value:=match vs with
 |[.string s,.string a]=>bif Nat.beq f 182 && Nat.ble s.size 1000 && Nat.ble a.size 1000 then some (.bool (zS s.data.toList a.data.toList)) else l11 f [.string s,.string a]
 |[.string s]=>bif Nat.beq f 183 && Nat.ble s.size 1000 then some (pN (gF s.data.toList)) else l11 f [.string s]
 |vs=>l11 f vs
noncomputable def akV:Hk:=⟨vt,fun _ _=>none,l14⟩
theorem acn (o:Option Nat):gL 3 (pN o)=true:=by cases o<;>rfl
theorem XC (W0:World) (hl:bZ W0):Plain Tryz.prog akV W0 where
 x:=qf
 z:=fun f vs v h=>by cases h
 l:=fun f vs v h=>by
  change l14 f vs=some v at h;unfold l14 at h;split at h
  ·rename_i s a;cases hb:(Nat.beq f 182 && Nat.ble s.size 1000 && Nat.ble a.size 1000) with
   |false=>rw [hb] at h;exact(Dy W0 hl).l f _ v h
   |true=>
    rw [hb] at h;cases h;simp only [Bool.and_eq_true] at hb;have:=Nat.eq_of_beq_eq_true hb.1.1;subst this;have h1:=Nat.le_of_ble_eq_true hb.1.2;have h2:=Nat.le_of_ble_eq_true hb.2;exact⟨rfl,rfl,fun w hw=>oD s a af h2 w (bZ.later hl hw)⟩
  ·rename_i s;cases hb:(Nat.beq f 183 && Nat.ble s.size 1000) with
   |false=>rw [hb] at h;exact(Dy W0 hl).l f _ v h
   |true=>
    rw [hb] at h;cases h;simp only [Bool.and_eq_true] at hb;have:=Nat.eq_of_beq_eq_true hb.1;subst this;have h1:=Nat.le_of_ble_eq_true hb.2;exact⟨rfl,acn _,fun w hw=>sH s af w⟩
  ·exact(Dy W0 hl).l f _ v h
end Go.Proofs.YtjchnliaglecoaaGreatDoor

/- A part of the proof. Conditions: none. -/
set_option maxRecDepth 100000
set_option maxHeartbeats 8000000
namespace Go.Proofs.YtjchnliaglecoaaGreatDoor
open Go Go.RowKit Go.Am
theorem agk:K9 Tryz.prog akV 600 8 #[] isTrue=true:=by kernel_rfl
theorem La (w:World) (hl:bZ w):Calls Tryz.prog 8 #[] w fun e w'=>e=.returned (.bool true)∧Below w.heap.size w w':=
 (vL ai w (XC w hl) agk rfl).mono fun e w' ⟨v,v',E,h1,h2,h3,h4⟩=>by
  refine⟨?_,h4⟩;cases v<;>simp [isTrue] at h1
  subst h1;cases h3;exact h2
end Go.Proofs.YtjchnliaglecoaaGreatDoor
