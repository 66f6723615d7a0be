/- A part of the proof. Conditions: none. -/
import Derived.TacticsIn
import Derived.OrdersIn
import Derived.Test.YtjchnliaglecoaaGreatDoorZz
import Derived.Test.YtjchnliaglecoaaGreatDoorAmUX
set_option linter.unusedVariables false
set_option linter.unusedSimpArgs false
set_option maxRecDepth 100000
set_option maxHeartbeats 8000000
namespace Go.Am
open Go Go.RowKit
variable {P:Program}
theorem NM {n:Nat} {P:Program} {row:String} {args:Array Value} {w:World} {R:Value→World→Prop} (h:Rows P row args w R):RowsIn Fence.wide n P row args w R:=
 fun c cs _=>let ⟨v,w',r,s⟩:=h c cs;⟨v,w',r,stepsIn_wide.2 s⟩
theorem NN {n:Nat} {P:Program} {o:Oper} {a:Act} {w:World} {K:Act→World→Prop} {Q:Exit→Act→World→Prop}
  (h:o.wp P a w K Q):o.wpIn Fence.wide n P a w K Q:=by
 refine⟨fun _ _=>trivial, ?_⟩;have hs:o.semAt Fence.wide.round a.eval=execOp a.eval o:=rfl;rw [hs];unfold Oper.wp at h;cases hr:(execOp a.eval o).run P w with
 |ok x w'=>
  rw [hr] at h;cases x<;>simp only [Oper.upon,Oper.uponIn] at h ⊢<;>first|exact h|exact h.elim|exact⟨(nomatch ·),callsIn_wide (n:=n - 1).2 h⟩|exact⟨(nomatch ·),NM h⟩
 |halt x w'=>
  rw [hr] at h;cases x<;>simp only [Oper.upon,Oper.uponIn] at h ⊢<;>first|exact h|exact h.elim
theorem bX {n:Nat} {P:Program} {ops:Array Oper} {Q:Exit→Act→World→Prop} {i:Nat} {K:Act→World→Prop} {a:Act} {w:World}
  (hQ:¬LetsOut Q) (h:wpOp P ops Q i K a w):wpOpIn Fence.wide n P ops Q i K a w:=by
 unfold wpOp at h;unfold wpOpIn;cases ho:ops[i]? with
 |none=>simpa [ho] using h
 |some o=>
  simp only [ho] at h ⊢;split
  ·rename_i hw;simp only [hw,if_true] at h;exact NN (h.resolve_right fun h=>hQ h.2)
  ·rename_i hw;simp only [hw] at h;exact⟨fun _ _=>trivial,h⟩
theorem rC {n:Nat} {P:Program} {ops:Array Oper} {i:Nat} {o:Oper} {ca:Act} {w w':World} {v:Value} {K:Act→World→Prop} {Q:Act→World→Prop} (ho:ops[i]?=some o) (hw:Region.wanted o (yielded ops ca.tmps)=true) (hk:K (ca.put o.dst v) w') (h:(execOp ca.eval o).run P w=.ok (.value v) w'):wpOpIn Fence.wide n P ops (Exit.then Q fun _ _ _=>False) i K ca w:=bX (fun⟨_,_,h⟩=>h) (rv ho hw hk h)
structure DK (ops:List Oper) (Φ:Nat→World→Value→Prop) (a0:Act) (I:(Nat→Bool)→Act→World→Prop) (i:Nat) (o:Oper) (ca:Act) (w:World) (fuel:Nat) (listed:Array Bool):Prop where
 op:ops[i]?=some o
 inv:I (fun j=>listed.getD j false) ca w
 own:listed.getD i false=false
 behind:∀j,((jd ops []).getD j 0).testBit i=true→listed.getD j false=false
 ahead:∀j,((jd ops []).getD i 0).testBit j=true→listed.getD j false=true
 look:kT ops Φ a0 o ca w
 size':(listed.setIfInBounds i true).size=ops.length
 count':(listed.setIfInBounds i true).toList.count false≤fuel
 DL:eX ops (fun j=>(listed.setIfInBounds i true).getD j false)
 get':∀j,(listed.setIfInBounds i true).getD j false=if j=i then true else listed.getD j false
 defers:ca.defers=a0.defers
 size:ca.tmps.size=a0.tmps.size
 phi:∀(j:Nat) (p:Oper) d,ops[j]?=some p→p.dst=some d→listed.getD j false=true→Φ j w (ca.tmps.getD d undef)
 oth:∀t,(∀(j:Nat) (p:Oper),ops[j]?=some p→p.dst≠some t)→ca.tmps.getD t undef=a0.tmps.getD t undef
theorem eJ {n:Nat} {ops:List Oper} {Φ:Nat→World→Value→Prop} {a0:Act} {I:(Nat→Bool)→Act→World→Prop} {Q:Exit→Act→World→Prop}
  (hap:kS ops (jd ops [])=true) (MK:ops.all (fun o=>match o.dst with|some d=>Nat.blt d a0.tmps.size|none=>true)=true)
  (A9:∀j w w' v,Φ j w v→Φ j w' v)
  (hop:∀i o ca w fuel listed,DK ops Φ a0 I i o ca w fuel listed→(∀v w',I (fun j=>if j=i then true else listed.getD j false) (ca.put o.dst v) w'→Φ i w' v→wpAnyIn Fence.wide n P .any ops.toArray Q fuel (listed.setIfInBounds i true) (ca.put o.dst v) w')→wpOpIn Fence.wide n P ops.toArray Q i (wpAnyIn Fence.wide n P .any ops.toArray Q fuel (listed.setIfInBounds i true)) ca w)
  (eP:∀ca w f,I f ca w→(∀i,i<ops.length→f i=true)→ca.defers=a0.defers→ca.tmps.size=a0.tmps.size→(∀(j:Nat) (p:Oper) d,ops[j]?=some p→p.dst=some d→Φ j w (ca.tmps.getD d undef))→(∀t,(∀(j:Nat) (p:Oper),ops[j]?=some p→p.dst≠some t)→ca.tmps.getD t undef=a0.tmps.getD t undef)→Q .normal ca w):
  ∀(fuel:Nat) (listed:Array Bool) ca w,listed.size=ops.length→listed.toList.count false≤fuel→I (fun i=>listed.getD i false) ca w→ca.defers=a0.defers→ca.tmps.size=a0.tmps.size→eX ops (fun i=>listed.getD i false)→
   (∀(j:Nat) (p:Oper) d,ops[j]?=some p→p.dst=some d→listed.getD j false=true→Φ j w (ca.tmps.getD d undef))→(∀t,(∀(j:Nat) (p:Oper),ops[j]?=some p→p.dst≠some t)→ca.tmps.getD t undef=a0.tmps.getD t undef)→
   wpAnyIn Fence.wide n P .any ops.toArray Q fuel listed ca w:=by
 obtain⟨rN,hown,xS⟩:=gJ hap;intro fuel
 induction fuel with
 |zero=>
  intro listed ca w hsz JL hb hd hs Ai aT bp;have hall:∀i,i<ops.length→listed.getD i false=true:=fun i hi=>by
   exact JM
  refine⟨?_,eP ca w (fun i=>listed.getD i false) hb hall hd hs (fun j p d hp mS=>aT j p d hp mS (hall j (List.getElem?_eq_some_iff.1 hp).1)) bp⟩;exact SB
 |succ fuel ih=>
  intro listed ca w hsz JL hb hd hs Ai aT bp;constructor
  ·intro hnone;have hall:∀i,i<ops.length→listed.getD i false=true:=by
    exact adQ
   exact eP ca w (fun i=>listed.getD i false) hb hall hd hs (fun j p d hp mS=>aT j p d hp mS (hall j (List.getElem?_eq_some_iff.1 hp).1)) bp
  ·have SC:=trivial;exact SD
theorem fG {n:Nat} {ops:List Oper} {Q:Exit→Act→World→Prop} {a0:Act} {w1:World} (h:∀listed:Array Bool,listed.size=ops.length→listed.toList.count false≤ops.toArray.size→(∀j,listed.getD j false=false)→eX ops (fun i=>listed.getD i false)→wpAnyIn Fence.wide n P .any ops.toArray Q ops.toArray.size listed a0 w1):
  wpAnyIn Fence.wide n P .any ops.toArray Q ops.toArray.size (Array.replicate ops.toArray.size false) a0 w1:=by
 have hg:∀j,(Array.replicate ops.toArray.size false).getD j false=false:=fun j=>by
  simp [Array.getElem?_replicate];split<;>rfl
 exact h _ ak ak hg (fun j o e hj=>by simp only [hg] at hj;cases hj)
theorem er {n:Nat} {P:Program} {id:Nat} {ops:Array Oper} {Q:Exit→Act→World→Prop} {a:Act} {w:World} (hm:P.follows .mixedOrders=true)
  (h:wpAnyIn Fence.wide n P .any ops (Exit.then (Q .normal) fun _ _ _=>False) ops.size (Array.replicate ops.size false) a {w with drawn:=w.drawn+1}):(Code.region id ops true).wpIn Fence.wide n P Q a w:=
 wpIn_mono (wpIn_region_any hm h) fun e a w h=>by cases e<;>first|exact h|exact h.elim
theorem dm {K:Act→World→Prop}:¬LetsOut (Exit.then K fun _ _ _=>False):=fun⟨_,_,h⟩=>h
theorem ql {n:Nat} {ops:Array Oper} {i:Nat} {o:Oper} {ca:Act} {w:World} {K:Act→World→Prop} {Q:Exit→Act→World→Prop} (ho:ops[i]?=some o) (hw:Region.wanted o (yielded ops ca.tmps)=true) (h:o.wpIn Fence.wide n P ca w K Q):wpOpIn Fence.wide n P ops Q i K ca w:=by
 unfold wpOpIn;simp only [ho,hw,if_true];exact h
theorem zl {n:Nat} {ops:Array Oper} {i j:Nat} {d:Tmp} {b b':Bool} {o:Oper} {ca:Act} {w:World} {K:Act→World→Prop} {Q:Exit→Act→World→Prop} (ho:ops[i]?=some o) (hg:o.guard=some (j,b')) (hd:(ops[j]?).bind (·.dst)=some d) (hv:ca.tmps.getD d undef=.bool b) (Ip:(b==b')=true) (h:o.wpIn Fence.wide n P ca w K Q):wpOpIn Fence.wide n P ops Q i K ca w:=
 ql ho ((vu hg hd hv).trans Ip) h
theorem JX {n:Nat} {o:Oper} {ca:Act} {w w':World} {l:Nat} {f:FuncId} {tmps:Array Value} {assign body:Code} {K:Act→World→Prop} {Q:Exit→Act→World→Prop} (h:(execOp ca.eval o).run P w=.ok (.round l f tmps assign body) w')
  (hc:RoundIn Fence.wide (n - 1) P l f tmps assign body w' fun e w''=>∃v,e=.returned v∧K (ca.put o.dst v) w''):o.wpIn Fence.wide n P ca w K Q:=by
 exact SE
theorem lF {n:Nat} {o:Oper} {ca:Act} {w w':World} {f:FuncId} {args:Array Value} {K:Act→World→Prop} {Q:Exit→Act→World→Prop} (h:(execOp ca.eval o).run P w=.ok (.enter f args) w')
  (hc:CallsIn Fence.wide (n - 1) P f args w' fun e w''=>∃v,e=.returned v∧K (ca.put o.dst v) w''):o.wpIn Fence.wide n P ca w K Q:=by
 exact SE
def dO (pv:Nat) (ps:Tmp) (oN:List (Nat × Tmp)) (A:World→Prop) (B:Bool→World→Prop) (f:Nat→Bool) (ca:Act) (w:World):Prop:=
 if f pv=true then ∃r:Bool,ca.tmps.getD ps undef=.bool r∧B r w∧∀q∈oN,f q.1=true→ca.tmps.getD q.2 undef=.bool r else A w
section
variable {pv:Nat} {ps:Tmp} {oN:List (Nat × Tmp)} {A:World→Prop} {B:Bool→World→Prop} {f:Nat→Bool} {ca:Act} {w:World}
theorem dO.first (hf:f pv=false) (hA:A w):dO pv ps oN A B f ca w:=by unfold dO;rw [if_neg (by rw [hf];decide)];exact hA
theorem dO.pre (h:dO pv ps oN A B f ca w) (hf:f pv=false):A w:=by unfold dO at h;rw [if_neg (by rw [hf];decide)] at h;exact h
theorem dO.post (h:dO pv ps oN A B f ca w) (hf:f pv=true):∃r:Bool,ca.tmps.getD ps undef=.bool r∧B r w∧∀q∈oN,f q.1=true→ca.tmps.getD q.2 undef=.bool r:=by unfold dO at h;rw [if_pos hf] at h;exact h
theorem dO.jh {i:Nat} {kA:Act} {w':World} (hf:f pv=false) (hi:i≠pv) (hA:A w'):dO pv ps oN A B (fun j=>if j=i then true else f j) kA w':=
 dO.first (by simp only [if_neg hi.symm];exact hf) hA
theorem dO.LM {i:Nat} {d:Tmp} {v:Value} (h:dO pv ps oN A B f ca w) (hf:f pv=true) (hi:i≠pv) (hd:d≠ps) (sN:d<ca.tmps.size) (hq:∀q∈oN,(q.2=d↔q.1=i))
  (hv:∀r:Bool,ca.tmps.getD ps undef=.bool r→v=.bool r):dO pv ps oN A B (fun j=>if j=i then true else f j) (ca.put (some d) v) w:=by
 obtain⟨r,h1,h2,h3⟩:=h.post hf;unfold dO;simp only [if_neg hi.symm];rw [if_pos hf];refine⟨r, ?_,h2,fun q hqm hqf=>?_⟩
 ·rw [←h1];simp [Act.put,Array.getElem?_setIfInBounds,hd]
 ·by_cases e:q.1=i
  ·have e2:=(hq q hqm).2 e;rw [hv r h1,e2];simp [Act.put,sN]
  ·have e2:¬d=q.2:=fun h=>e ((hq q hqm).1 h.symm)
   simp only [if_neg e] at hqf;rw [←h3 q hqm hqf];simp [Act.put,Array.getElem?_setIfInBounds,e2]
theorem dO.at {r:Bool} {w':World} (hB:B r w') (hps:ps<ca.tmps.size) (hq:∀q∈oN,q.1≠pv∧f q.1=false):dO pv ps oN A B (fun j=>if j=pv then true else f j) (ca.put (some ps) (.bool r)) w':=by
 unfold dO;rw [if_pos ak];refine⟨r,by simp [Act.put,hps],hB,fun q hqm hqf=>?_⟩;obtain⟨h1,h2⟩:=hq q hqm;simp only [if_neg h1] at hqf;rw [h2] at hqf;cases hqf
end
end Go.Am
