/- A part of the proof. Conditions: none. -/
import Derived.Test.YtjchnliaglecoaaGreatDoorZz
import Derived.Test.YtjchnliaglecoaaGreatDoorAmV
set_option linter.unusedVariables false
set_option linter.unusedSimpArgs false
set_option maxRecDepth 100000
set_option maxHeartbeats 8000000
namespace Go.Am
open Go Go.RowKit
variable {P:Program} {ops:List Oper} {Φ:Nat→World→Value→Prop} {a0:Act} {I:(Nat→Bool)→Act→World→Prop} {i:Nat} {o:Oper} {ca:Act} {w:World} {fuel:Nat} {listed:Array Bool}
theorem DK.put_defers (T:DK ops Φ a0 I i o ca w fuel listed) (v:Value):(ca.put o.dst v).defers=a0.defers:=by
 rw [←T.defers];cases o.dst<;>rfl
theorem DK.zD (T:DK ops Φ a0 I i o ca w fuel listed) (v:Value):(ca.put o.dst v).tmps.size=a0.tmps.size:=by
 rw [←T.size];cases o.dst<;>simp [Act.put]
theorem DK.DZ (T:DK ops Φ a0 I i o ca w fuel listed) (v:Value):∀t,(∀(j:Nat) (p:Oper),ops[j]?=some p→p.dst≠some t)→(ca.put o.dst v).tmps.getD t undef=a0.tmps.getD t undef:=fun t hno=>by
 have Xr:o.dst≠some t:=hno i o T.op;have:(ca.put o.dst v).tmps.getD t undef=ca.tmps.getD t undef:=by
  exact am3
 rw [this];exact T.oth t hno
theorem DK.DY (T:DK ops Φ a0 I i o ca w fuel listed) {v:Value} {Φ2:Nat→World→Value→Prop} {w':World} (hap:kS ops (jd ops [])=true) (MK:ops.all (fun o=>match o.dst with|some d=>Nat.blt d a0.tmps.size|none=>true)=true)
  (hi:Φ2 i w' v) (h:∀(j:Nat) (p:Oper) d,ops[j]?=some p→p.dst=some d→listed.getD j false=true→Φ2 j w' (ca.tmps.getD d undef)):
  ∀(j:Nat) (p:Oper) d,ops[j]?=some p→p.dst=some d→(listed.setIfInBounds i true).getD j false=true→Φ2 j w' ((ca.put o.dst v).tmps.getD d undef):=fun j p d hp mS hj=>by
 obtain⟨rN,hown,xS⟩:=gJ hap;have ho:=T.op;by_cases e1:j=i
 ·subst e1;rw [ho] at hp;cases hp;have aid:d<ca.tmps.size:=by
   have:=List.all_eq_true.1 MK o (List.mem_of_getElem? ho);simp only [mS,blt_eq] at this;rw [T.size];simpa using this
  have:(ca.put o.dst v).tmps.getD d undef=v:=by simp [Act.put,mS,aid]
  rw [this];exact hi
 ·rw [T.get' j,if_neg e1] at hj;have hdd:o.dst≠some d:=fun Xr=>by
   exact Ks
  have:(ca.put o.dst v).tmps.getD d undef=ca.tmps.getD d undef:=by
   exact Km
  rw [this];exact h j p d hp mS hj
def WV (pv:Nat) (A:World→Prop) (f:Nat→Bool) (ca:Act) (w:World):Prop:=f pv=false∧A w
theorem WV.keep {pv:Nat} {A:World→Prop} {f:Nat→Bool} {ca kA:Act} {w w':World} {i:Nat} (h:WV pv A f ca w) (hi:i≠pv) (hA:A w'):WV pv A (fun j=>if j=i then true else f j) kA w':=
 ⟨by simp only [if_neg hi.symm];exact h.1,hA⟩
def Oa (m:Nat) (I:(Nat→Bool)→Act→World→Prop) (f:Nat→Bool) (ca:Act) (w:World):Prop:=(∀j,j≤m→f j=true)∧I f ca w
theorem Oa.keep {m:Nat} {I:(Nat→Bool)→Act→World→Prop} {f:Nat→Bool} {ca kA:Act} {w w':World} {i:Nat} (h:Oa m I f ca w) (hI:I (fun j=>if j=i then true else f j) kA w'):Oa m I (fun j=>if j=i then true else f j) kA w':=
 ⟨fun j hj=>by by_cases e:j=i<;>simp [e,h.1 j hj],hI⟩
end Go.Am
