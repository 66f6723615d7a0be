/- A part of the proof. Conditions: none. -/
import Derived.Test.YtbgjanmheagilaaGreatDoorZz
import Derived.Test.YtbgjanmheagilaaGreatDoorSr
import Derived.Test.YtbgjanmheagilaaGreatDoorLpX
set_option linter.unusedVariables false
set_option linter.unusedSimpArgs false
set_option maxRecDepth 100000
set_option maxHeartbeats 8000000
namespace Go.Proofs.YtbgjanmheagilaaGreatDoor
open Go Go.RowKit Go.Nodes
theorem yH:∀(os:List Nd) (i:Nat) (h:i<os.length) (j:Nat),j<4→(iF os)[i*4+j]?=(dZ os[i])[j]?
 |[],i,h,j,hj=>by simp at h
 |x::os,0,h,j,hj=>by
  show(dZ x++iF os)[0*4+j]?=_;rw [List.getElem?_append_left (by simp [dZ];omega)];simp
 |x::os,i+1,h,j,hj=>by
  show(dZ x++iF os)[(i+1)*4+j]?=_;rw [List.getElem?_append_right (by simp [dZ];omega),show(i+1)*4+j - (dZ x).length=i*4+j by simp [dZ];omega];exact yH os i kV j hj
theorem CJ {W:World} {B:Nat} {v:Value} {os:List Nd} (hO:W.ownsRow B 30 4 v os.length (iF os)) (hK:∀x∈os,Ints B W (.slice x.kp x.kids.length x.aC) x.kids)
  (hm:os.length≤maxLen) (hf:∀x∈os,i64 x.kind∧i64 x.place∧x.text.size≤maxLen∧x.kids.length≤maxLen∧∀k∈x.kids,i64 k):∃p cap,v=.slice p os.length cap∧aj W p os:=by
 have bg:∀x∈os,x.fine W:=fun x hx=>by
  obtain⟨f1,f2,f3,f4,f5⟩:=hf x hx;obtain⟨p,c,e1,e2⟩:=(hK x hx).out;cases e1;exact⟨f1,f2,f3,f4,f5,e2⟩
 rcases hO.2 with⟨hv,h0⟩|⟨g,cap,cur,hv,hB,hg,hnc,_,hsz,xz⟩
 ·have:os=[]:=List.length_eq_zero_iff.1 h0;subst this;exact⟨none,0,hv,by simp,by simp,.inl rfl⟩
 ·refine⟨_,_,hv,hm,bg,.inr ⟨g,0,rfl,(Array.getElem?_eq_some_iff.1 hg).1,fun i hi=>?_⟩⟩;have vC:∀j,j<4→cur[i*4+j]?=(dZ os[i])[j]?:=fun j hj=>by
   rw [←yH os i hi j hj,←xz,List.getElem?_take_of_lt aa];simp
  refine⟨?_, ?_, ?_, ?_⟩
  ·have:=vC 0 aa;simp only [Nat.add_zero] at this;simp [World.cell?,hg,this,dZ]
  ·simp [World.cell?,hg,vC 1 aa,dZ]
  ·simp [World.cell?,hg,vC 2 aa,dZ]
  ·simp [World.cell?,hg,vC 3 aa,dZ]
end Go.Proofs.YtbgjanmheagilaaGreatDoor