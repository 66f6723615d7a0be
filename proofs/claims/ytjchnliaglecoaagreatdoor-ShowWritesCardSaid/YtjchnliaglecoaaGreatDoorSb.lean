/- A part of the proof. Conditions: none. -/
import Derived.Test.YtjchnliaglecoaaGreatDoorZz
import Derived.Test.YtjchnliaglecoaaGreatDoorSa
import Derived.Test.YtjchnliaglecoaaGreatDoorTy
set_option linter.unusedVariables false
set_option linter.unusedSimpArgs false
set_option maxRecDepth 100000
set_option maxHeartbeats 8000000
namespace Go.Proofs.YtjchnliaglecoaaGreatDoor
open Go Go.RowKit Go.Nodes
def aH (k:Int) (t:List UInt8):Int:=
 if k=30 then 1 else if k=29 then 2 else if k=28 then 7 else if k=27 then
  (if(t==[46,46])=true then 4 else if(t==[43])=true then 5 else if(t==[45])=true then 5 else if(t==[42])=true then 6 else if(t==[47,47])=true then 6 else if(t==[37])=true then 6 else 3)
 else 8
theorem tF (k:Int) (s:ByteArray) (kp:Option Addr) (nk kc:Nat) (bE:Int) (w:World):
  Calls Tryz.prog 205 #[.agg #[.int .i64 k,.string s,.slice kp nk kc,.int .i64 bE]] w fun e w'=>e=.returned (.int .i64 (aH k s.toList))∧Below w.heap.size w w':=by
 obtain⟨t,ht⟩:∃t,t=aH k s.toList:=⟨_,rfl⟩;rw [←ht];unfold aH at ht;have Ht:=hid ht;clear ht;by_cases YA:k=30
 ·subst YA;exact Eb
 by_cases YB:k=29
 ·subst YB;exact Eb
 by_cases YC:k=28
 ·subst YC;exact Eb
 by_cases h27:k=27
 ·subst h27;have hR:Hid (t=if(s.toList==[46,46])=true then 4 else if(s.toList==[43])=true then 5 else if(s.toList==[45])=true then 5 else if(s.toList==[42])=true then 6 else if(s.toList==[47,47])=true then 6 else if(s.toList==[37])=true then 6 else 3):=hid Ht.out;clear Ht YC YB YA;cases h0:(s.toList==[46,46]) with
  |true=>
   rw [h0] at hR;exact ve
  |false=>
   rw [h0] at hR;cases h1:(s.toList==[43]) with
   |true=>
    rw [h1] at hR;exact ve
   |false=>
    rw [h1] at hR;cases h2:(s.toList==[45]) with
    |true=>
     rw [h2] at hR;exact ve
    |false=>
     rw [h2] at hR;cases h3:(s.toList==[42]) with
     |true=>
      rw [h3] at hR;exact ve
     |false=>
      rw [h3] at hR;cases h4:(s.toList==[47,47]) with
      |true=>
       rw [h4] at hR;exact ve
      |false=>
       rw [h4] at hR;cases h5:(s.toList==[37]) with
       |true=>
        exact Nh
       |false=>
        exact Nh
 ·have e30:(k==30)=false:=by simp [YA]
  have e29:(k==29)=false:=by simp [YB]
  have e28:(k==28)=false:=by simp [YC]
  have e27:(k==27)=false:=by simp [h27]
  have hr:t=8:=by rw [Ht.out,if_neg YA,if_neg YB,if_neg YC,if_neg h27]
  subst hr;clear Ht YA YB YC h27;go_enter Tryz.func205,Tryz.ntmps205;go_wp2;go_ret;exact⟨rfl,bA (Below.refl _ _) _⟩
end Go.Proofs.YtjchnliaglecoaaGreatDoor