/- A part of the proof. Conditions: none. -/
import Derived.Test.YtbgjanmheagilaaGreatDoorZz
import Derived.Test.YtbgjanmheagilaaGreatDoorAmSX
set_option linter.unusedVariables false
set_option linter.unusedSimpArgs false
set_option maxRecDepth 100000
set_option maxHeartbeats 8000000
namespace Go.Am
open Go Go.RowKit
variable {P:Program}
def nt (ops:List Oper) (bef:List Nat) (z:Nat) (sp:Nat→Bool):Bool:=
 ops.zipIdx.all fun(p,j)=> !sp j||ops.zipIdx.all fun(o,k)=>(match p.dst with|some d=> !(o.looksAt ops.toArray).contains d|none=>true)||Nat.beq k z||(bef.getD z 0).testBit k
theorem E4 {ops:List Oper} {z:Nat} {sp:Nat→Bool} (h:nt ops (jR ops []) z sp=true) {i j:Nat} {o p:Oper} {t:Tmp} (hsj:sp j=true) (hp:ops[j]?=some p) (qR:p.dst=some t) (ho:ops[i]?=some o) (ht:t∈o.looksAt ops.toArray):i=z∨cN ops z i:=by
 unfold nt at h;have hm:(p,j)∈ops.zipIdx:=OE;have J9:(o,i)∈ops.zipIdx:=CG;have h1:=List.all_eq_true.1 h _ hm;simp only [hsj,Bool.not_true,Bool.false_or] at h1;have h2:=List.all_eq_true.1 h1 _ J9;simp only [qR,Bool.or_eq_true] at h2;rcases h2 with(h2|h2)|h2
 ·have:(o.looksAt ops.toArray).contains t=true:=by simpa using ht
  rw [this] at h2;cases h2
 ·exact .inl (Nat.eq_of_beq_eq_true h2)
 ·exact .inr (gp ops ops [] (fun k o hk=>by simpa using hk) (fun j i h=>by simp at h) z i h2)
end Go.Am
/- A part of the proof. Conditions: none. -/
set_option maxRecDepth 100000
set_option maxHeartbeats 8000000
namespace Go.Am
open Go Go.RowKit
variable {P:Program}
theorem ew {ops:List Oper} {Φ:Nat→World→Value→Prop} {a0:Act} {I:(Nat→Bool)→Act→World→Prop} {S:Nat→World→World→Prop} {Q:Exit→Act→World→Prop}
  (hap:pV ops (jR ops [])=true) (acB:ops.all (fun o=>match o.dst with|some d=>Nat.blt d a0.tmps.size|none=>true)=true)
  (sp:Nat→Nat→Bool) (hsp:∀z,nt ops (jR ops []) z (sp z)=true)
  (LJ:∀i j w w' v,i≠j→sp i j=false→S i w w'→Φ j w v→Φ j w' v)
  (hop:∀i o ca w f,ops[i]?=some o→I f ca w→f i=false→(∀j,((jR ops []).getD j 0).testBit i=true→f j=false)→mE ops Φ a0 o ca w→∀K:Act→World→Prop,(∀v w',I (fun j=>if j=i then true else f j) (ca.put o.dst v) w'→S i w w'→Φ i w' v→K (ca.put o.dst v) w')→wpOp P ops.toArray Q i K ca w)
  (cP:∀ca w f,I f ca w→(∀i,i<ops.length→f i=true)→ca.defers=a0.defers→ca.tmps.size=a0.tmps.size→(∀(j:Nat) (p:Oper) d,ops[j]?=some p→p.dst=some d→(∀z,sp z j=false)→Φ j w (ca.tmps.getD d undef))→(∀t,(∀(j:Nat) (p:Oper),ops[j]?=some p→p.dst≠some t)→ca.tmps.getD t undef=a0.tmps.getD t undef)→Q .normal ca w) (w1:World) (uE:I (fun _=>false) a0 w1):
  wpAny P .any ops.toArray Q ops.toArray.size (Array.replicate ops.toArray.size false) a0 w1:=by
 obtain⟨tj,hown,Gn⟩:=nQ hap;have key:∀(fuel:Nat) (listed:Array Bool) ca w,listed.size=ops.length→listed.toList.count false≤fuel→I (fun i=>listed.getD i false) ca w→ca.defers=a0.defers→ca.tmps.size=a0.tmps.size→fB ops (fun i=>listed.getD i false)→
   (∀(j:Nat) (p:Oper) d,ops[j]?=some p→p.dst=some d→listed.getD j false=true→(∀z,sp z j=true→listed.getD z false=false)→Φ j w (ca.tmps.getD d undef))→(∀t,(∀(j:Nat) (p:Oper),ops[j]?=some p→p.dst≠some t)→ca.tmps.getD t undef=a0.tmps.getD t undef)→
   wpAny P .any ops.toArray Q fuel listed ca w:=by
  intro fuel
  induction fuel with
  |zero=>
   intro listed ca w hsz LK hb hd hs AQ dB fM;have hall:∀i,i<ops.length→listed.getD i false=true:=fun i hi=>by
    exact LL
   refine⟨?_,cP ca w (fun i=>listed.getD i false) hb hall hd hs (fun j p d hp qR hsj=>dB j p d hp qR (hall j (List.getElem?_eq_some_iff.1 hp).1) (fun z h=>by rw [hsj z] at h;cases h)) fM⟩;exact U6
  |succ fuel ih=>
   intro listed ca w hsz LK hb hd hs AQ dB fM;constructor
   ·intro hnone;have hall:∀i,i<ops.length→listed.getD i false=true:=by
     exact U7
    exact cP ca w (fun i=>listed.getD i false) hb hall hd hs (fun j p d hp qR hsj=>dB j p d hp qR (hall j (List.getElem?_eq_some_iff.1 hp).1) (fun z h=>by rw [hsj z] at h;cases h)) fM
   ·have LM:=trivial;exact U8
 refine key ops.toArray.size _ a0 _ ai ai (by
  have e:(fun i=>(Array.replicate ops.toArray.size false).getD i false)=fun _=>false:=by
   funext k;simp [Array.getElem?_replicate];split<;>rfl
  rw [e];exact uE) rfl rfl (fun j o e hj=>?_) (fun j p d hp qR hj _=>?_) (fun t _=>rfl)
 ·exact uP
 ·exact uP
theorem aX {a:Act} {d e:Tmp} {v:Value} (h:d≠e):(a.put (some d) v).tmps.getD e undef=a.tmps.getD e undef:=by
 simp [Act.put,Array.getElem?_setIfInBounds,h]
theorem jk {a:Act} {d:Tmp} {v:Value} (h:d<a.tmps.size):(a.put (some d) v).tmps.getD d undef=v:=by
 simp [Act.put,h]
end Go.Am