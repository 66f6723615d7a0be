/- A part of the proof. Conditions: none. -/
import Derived.Test.YtbgjanmheagilaaGreatDoorZz
import Derived.Test.YtbgjanmheagilaaGreatDoorAmMX
import Derived.Test.YtbgjanmheagilaaGreatDoorAmQX
set_option linter.unusedVariables false
set_option linter.unusedSimpArgs false
set_option maxRecDepth 100000
set_option maxHeartbeats 8000000
namespace Go.Am
open Go Go.RowKit
variable {P:Program}
def pV (ops:List Oper) (bef:List Nat):Bool:=
 (ops.zipIdx.all fun(p,j)=>ops.zipIdx.all fun(o,i)=> !Nat.blt i j||(match o.dst,p.dst with|some d,some e=> !Nat.beq d e|_,_=>true) && ((bef.getD j 0).testBit i||o.apart ops.toArray p)) &&
  (ops.zipIdx.all fun(p,j)=>ops.zipIdx.all fun(o,i)=> !Nat.ble i j||(match p.dst with|some d=> !(o.looksAt ops.toArray).contains d|none=>true)) &&
  ops.zipIdx.all fun(o,i)=>o.after.all fun e=> !Region.binds .any e||Nat.blt e.on i
def mE (ops:List Oper) (Φ:Nat→World→Value→Prop) (a0:Act) (o:Oper) (ca:Act) (w:World):Prop:=
 ∀t∈o.looksAt ops.toArray,(∀(j:Nat) (p:Oper),ops[j]?=some p→p.dst=some t→Φ j w (ca.tmps.getD t undef))∧((∀(j:Nat) (p:Oper),ops[j]?=some p→p.dst≠some t)→ca.tmps.getD t undef=a0.tmps.getD t undef)
theorem nQ {ops:List Oper} (h:pV ops (jR ops [])=true):
  (∀i j o p,ops[i]?=some o→ops[j]?=some p→i<j→(∀d,o.dst=some d→p.dst≠some d)∧(cN ops j i∨o.apart ops.toArray p=true))∧(∀(i j:Nat) (o p:Oper) (d:Tmp),ops[i]?=some o→ops[j]?=some p→i≤j→p.dst=some d→d ∉ o.looksAt ops.toArray)∧∀i o e,ops[i]?=some o→e∈o.after→Region.binds .any e=true→e.on<i:=by
 unfold pV at h;simp only [Bool.and_eq_true] at h;obtain⟨⟨h1,h0⟩,h2⟩:=h;refine⟨?_, ?_, ?_⟩
 ·intro i j o p ho hp hlt;have hm:(p,j)∈ops.zipIdx:=OE;have J9:(o,i)∈ops.zipIdx:=CG;have h4:=List.all_eq_true.1 (List.all_eq_true.1 h1 _ hm) _ J9;simp only [Bool.or_eq_true,Bool.and_eq_true] at h4;rcases h4 with h4|⟨h4,h5⟩
  ·rw [blt_eq] at h4;simp at h4;omega
  ·refine⟨fun d hd he=>?_, ?_⟩
   ·simp [hd,he] at h4
   ·rcases h5 with h5|h5
    ·exact .inl (gp ops ops [] (fun k o hk=>by simpa using hk) (fun j i h=>by simp at h) j i h5)
    ·exact .inr h5
 ·intro i j o p d ho hp hle hd;have hm:(p,j)∈ops.zipIdx:=OE;have J9:(o,i)∈ops.zipIdx:=CG;have h4:=List.all_eq_true.1 (List.all_eq_true.1 h0 _ hm) _ J9;have hbl:Nat.ble i j=true:=Nat.ble_eq_true_of_le hle;simpa [hbl,hd] using h4
 ·intro i o e ho he hb;have hm:(o,i)∈ops.zipIdx:=CG;exact NJ
theorem cq {ops:Array Oper} {i:Nat} {o:Oper} {ca:Act} {w:World} {K:Act→World→Prop} {Q:Exit→Act→World→Prop} (ho:ops[i]?=some o) (hw:Region.wanted o (yielded ops ca.tmps)=true) (h:o.wp P ca w K Q):wpOp P ops Q i K ca w:=by
 unfold wpOp;simp only [ho,hw,if_true];exact .inl h
theorem dx {o:Oper} {ca:Act} {w w':World} {v:Value} {K:Act→World→Prop} {Q:Exit→Act→World→Prop} (h:(execOp ca.eval o).run P w=.ok (.value v) w') (hk:K (ca.put o.dst v) w'):o.wp P ca w K Q:=by
 unfold Oper.wp;rw [h];exact hk
theorem Pt {o:Oper} {ca:Act} {w w':World} {f:FuncId} {args:Array Value} {K:Act→World→Prop} {Q:Exit→Act→World→Prop} (h:(execOp ca.eval o).run P w=.ok (.enter f args) w') (hc:Calls P f args w' fun e w''=>∃v,e=.returned v∧K (ca.put o.dst v) w''):o.wp P ca w K Q:=by
 unfold Oper.wp;rw [h];exact hc.mono fun e w'' ⟨v,he,hk⟩=>by subst he;exact hk
theorem kF {ops:List Oper} {Φ:Nat→World→Value→Prop} {a0 ca:Act} {o p:Oper} {w:World} {j:Nat} {t:Tmp} (hl:mE ops Φ a0 o ca w) (ht:(o.looksAt ops.toArray).contains t=true) (hp:ops[j]?=some p) (hd:p.dst=some t):Φ j w (ca.tmps.getD t undef):=
 (hl t (by simpa using ht)).1 j p hp hd
theorem PB {ops:List Oper} {Φ:Nat→World→Value→Prop} {a0 ca:Act} {o:Oper} {w:World} {t:Tmp} {v:Value} (hl:mE ops Φ a0 o ca w) (ht:(o.looksAt ops.toArray).contains t=true) (hno:ops.all (fun p=>p.dst !=some t)=true) (hv:a0.tmps.getD t undef=v):ca.tmps.getD t undef=v:=by
 rw [(hl t (by simpa using ht)).2 fun j p hp=>?_,hv];have:=List.all_eq_true.1 hno p (List.mem_of_getElem? hp);simpa using this
theorem jP {ca:Act} {t:Tmp} {v:Value} (h:ca.tmps.getD t undef=v):ca.eval (.tmp t)=v:=h
theorem lk {ops:List Oper} {Φ:Nat→World→Value→Prop} {a0 ca:Act} {o:Oper} {w:World} {X:Value} (t j:Nat) (hl:mE ops Φ a0 o ca w) (hx:∀v,Φ j w v=(v=X)) (ht:(o.looksAt ops.toArray).contains t=true:=by kernel_rfl) (hp:(ops[j]?).bind (·.dst)=some t:=by rfl):ca.eval (.tmp t)=X:=by
 obtain⟨p,h1,h2⟩:=Option.bind_eq_some_iff.1 hp;exact(hx _).mp (kF hl ht h1 h2)
theorem lo {ops:List Oper} {Φ:Nat→World→Value→Prop} {a0 ca:Act} {o:Oper} {w:World} {v:Value} (t:Nat) (hl:mE ops Φ a0 o ca w) (hv:a0.tmps.getD t undef=v) (ht:(o.looksAt ops.toArray).contains t=true:=by kernel_rfl) (hno:ops.all (fun p=>p.dst !=some t)=true:=by kernel_rfl):ca.eval (.tmp t)=v:=PB hl ht hno hv
theorem rv {ops:Array Oper} {i:Nat} {o:Oper} {ca:Act} {w w':World} {v:Value} {K:Act→World→Prop} {Q:Exit→Act→World→Prop} (ho:ops[i]?=some o) (hw:Region.wanted o (yielded ops ca.tmps)=true) (hk:K (ca.put o.dst v) w') (h:(execOp ca.eval o).run P w=.ok (.value v) w'):wpOp P ops Q i K ca w:=cq ho hw (dx h hk)
end Go.Am
/- A part of the proof. Conditions: none. -/
set_option maxRecDepth 100000
set_option maxHeartbeats 8000000
namespace Go.Am
open Go Go.RowKit
variable {P:Program}
theorem Mf {o:Oper} {a:Act} {w:World} {K:Act→World→Prop} {Q Q1:Exit→Act→World→Prop} (hp:∀c a w,Q1 (.panic c) a w→Q (.panic c) a w) (hl:LetsOut Q1→LetsOut Q) (h:o.wp P a w K Q1):o.wp P a w K Q:=by
 unfold Oper.wp at*;generalize (execOp a.eval o).run P w=r at*;cases r with
 |ok n w'=>
  cases n<;>simp only [Oper.upon] at h ⊢<;>
   first
    |exact h
    |exact Calls.mono h (fun e w'' he=>by cases e<;>first|exact he|exact hp _ _ _ he|exact hl he)
 |halt x w'=>cases x<;>simp only [Oper.upon] at h ⊢<;>first|exact h|exact hp _ _ _ h
theorem xP {ops:Array Oper} {Q:Exit→Act→World→Prop} {listed:Array Bool} {a:Act} {w:World} (h:Region.ready .any ops listed=[]) (hQ:Q .normal a w):∀fuel,wpAny P .any ops Q fuel listed a w
 |0=>⟨h,hQ⟩
 |fuel+1=>⟨fun _=>hQ,fun i hi=>by rw [h] at hi;cases hi⟩
def jQ (P:Program) (ops:Array Oper) (p:Oper) (Q:Exit→Act→World→Prop):Exit→Act→World→Prop
 | .normal,a,w=>wpList P ops Q [p] a w
 |e,a,w=>Q e a w
theorem II {pre:Array Oper} {p:Oper} {Q:Exit→Act→World→Prop} (B4:∀i o,pre[i]?=some o→(∀e∈o.after,Region.binds .any e=true→e.on<i)∧∀j b,o.guard=some (j,b)→j<pre.size)
  (hp:∀e∈p.after,Region.binds .any e=true→e.on<pre.size) (kW:∀i,i<pre.size→cN (pre.push p).toList pre.size i):
  ∀(fuel:Nat) (l:Array Bool) (a:Act) (w:World),l.size=pre.size→fB pre.toList (fun i=>l.getD i false)→wpAny P .any pre (jQ P (pre.push p) p Q) fuel l a w→wpAny P .any (pre.push p) Q (fuel+1) (l.push false) a w:=by
 intro fuel;have xQ:∀(l:Array Bool) (d:Bool) i,i<l.size→(l.push false).getD i d=l.getD i d:=fun l d i hi=>by
  simp [Array.getD_eq_getD_getElem?,Array.getElem?_push,Nat.ne_of_lt hi]
 have acJ:∀(l:Array Bool),(l.push false).getD l.size true=false:=fun l=>by
  simp [Array.getD_eq_getD_getElem?]
 have xR:∀i,i<pre.size→(pre.push p)[i]?=pre[i]?:=fun i hi=>by simp [Array.getElem?_push,Nat.ne_of_lt hi]
 have EH:(pre.push p)[pre.size]?=some p:=ai;have rdy:∀(l:Array Bool),l.size=pre.size→∀i,i<pre.size→(i∈Region.ready .any (pre.push p) (l.push false)↔i∈Region.ready .any pre l):=fun l hl i hi=>by
  exact Ve
 have QF:∀(l:Array Bool),l.size=pre.size→∀i,i∈Region.ready .any (pre.push p) (l.push false)→i<pre.size∨i=pre.size:=fun l hl i hi=>by
  exact Mg
 have full:∀(l:Array Bool),l.size=pre.size→fB pre.toList (fun i=>l.getD i false)→pre.size∈Region.ready .any (pre.push p) (l.push false)→∀i,i<pre.size→l.getD i false=true:=fun l hl hc hn i hi=>by
  exact Vf
 have none:∀(l:Array Bool),(∀i,i<pre.size→l.getD i false=true)→l.size=pre.size→Region.ready .any pre l=[]:=fun l hl hsz=>by
  exact Vg
 have fin:∀(fuel:Nat) (l:Array Bool) (a:Act) (w:World),l.size=pre.size→(∀i,i<pre.size→l.getD i false=true)→wpList P (pre.push p) Q [p] a w→wpOp P (pre.push p) Q pre.size (wpAny P .any (pre.push p) Q fuel ((l.push false).setIfInBounds pre.size true)) a w:=fun fuel l a w hl hall h=>by
  have hr:Region.ready .any (pre.push p) ((l.push false).setIfInBounds pre.size true)=[]:=by
   exact Vh
  unfold wpList at h;unfold wpOp;simp only [EH];split
  ·rename_i hw;rw [if_pos hw] at h;exact h.imp (Oper.wp_mono fun a w h=>xP hr h fuel) id
  ·rename_i hw;rw [if_neg hw] at h;exact xP hr h fuel
 have kJ:∀(l:Array Bool),l.size=pre.size→Region.ready .any (pre.push p) (l.push false)=[]→False:=fun l hl h=>by
  exact Vi
 induction fuel with
 |zero=>
  exact Vj
 |succ fuel ih=>
  intro l a w hl hc h;refine⟨fun hn=>(kJ l hl hn).elim,fun i hi=>?_⟩;rcases QF l hl i hi with hlt|rfl
  ·have Iq:=(rdy l hl i hlt).1 hi;have h2:=h.2 i Iq;obtain⟨q1,o,ho,Mh⟩:=mem_ready.1 Iq;have lB:i<l.size:=aa;have Mi:(l.push false).setIfInBounds i true=(l.setIfInBounds i true).push false:=by
    exact Vk
   have AQ:fB pre.toList (fun j=>(l.setIfInBounds i true).getD j false):=fun j o' e hj Du he hb=>by
    exact Vl
   rw [Mi];unfold wpOp at h2 ⊢;rw [xR i hlt];simp only [ho] at h2 ⊢;have Mj:Region.wanted o (yielded (pre.push p) a.tmps)=Region.wanted o (yielded pre a.tmps):=by
    exact Vm
   rw [Mj];split
   ·rename_i hw;rw [if_pos hw] at h2;rcases h2 with h2|h2
    ·exact .inl (Mf (fun c a w h=>h) (fun h=>h) (Oper.wp_mono (fun a w h=>ih _ a w ud AQ h) h2))
    ·exact .inr h2
   ·rename_i hw;rw [if_neg hw] at h2;exact ih _ _ w ud AQ h2
  ·have hall:=full l hl hc hi;exact fin (fuel+1) l a w hl hall (h.1 (none l hall hl))
theorem fE {ops:List Oper} {Φ:Nat→World→Value→Prop} {a0:Act} {w0:World} {Q:Exit→Act→World→Prop}
  (hap:pV ops (jR ops [])=true) (acB:ops.all (fun o=>match o.dst with|some d=>Nat.blt d a0.tmps.size|none=>true)=true)
  (LJ:∀i w w' v,Below w.heap.size w w'→Φ i w v→Φ i w' v)
  (hop:∀i o ca w,ops[i]?=some o→Below w0.heap.size w0 w→mE ops Φ a0 o ca w→∀K:Act→World→Prop,(∀v w',Below w.heap.size w w'→Φ i w' v→K (ca.put o.dst v) w')→wpOp P ops.toArray Q i K ca w)
  (cP:∀ca w,Below w0.heap.size w0 w→ca.defers=a0.defers→ca.tmps.size=a0.tmps.size→(∀(j:Nat) (p:Oper) d,ops[j]?=some p→p.dst=some d→Φ j w (ca.tmps.getD d undef))→(∀t,(∀(j:Nat) (p:Oper),ops[j]?=some p→p.dst≠some t)→ca.tmps.getD t undef=a0.tmps.getD t undef)→Q .normal ca w) (w1:World) (uE:Below w0.heap.size w0 w1):
  wpAny P .any ops.toArray Q ops.toArray.size (Array.replicate ops.toArray.size false) a0 w1:=by
 obtain⟨tj,hown,Gn⟩:=nQ hap;have key:∀(fuel:Nat) (listed:Array Bool) ca w,listed.size=ops.length→listed.toList.count false≤fuel→Below w0.heap.size w0 w→ca.defers=a0.defers→ca.tmps.size=a0.tmps.size→fB ops (fun i=>listed.getD i false)→
   (∀(j:Nat) (p:Oper) d,ops[j]?=some p→p.dst=some d→listed.getD j false=true→Φ j w (ca.tmps.getD d undef))→(∀t,(∀(j:Nat) (p:Oper),ops[j]?=some p→p.dst≠some t)→ca.tmps.getD t undef=a0.tmps.getD t undef)→
   wpAny P .any ops.toArray Q fuel listed ca w:=by
  intro fuel
  induction fuel with
  |zero=>
   intro listed ca w hsz LK hb hd hs AQ dB fM;have hall:∀i,i<ops.length→listed.getD i false=true:=fun i hi=>by
    exact LL
   refine⟨?_,cP ca w hb hd hs (fun j p d hp qR=>dB j p d hp qR (hall j (List.getElem?_eq_some_iff.1 hp).1)) fM⟩;exact U6
  |succ fuel ih=>
   intro listed ca w hsz LK hb hd hs AQ dB fM;constructor
   ·intro hnone;have hall:∀i,i<ops.length→listed.getD i false=true:=by
     exact U7
    exact cP ca w hb hd hs (fun j p d hp qR=>dB j p d hp qR (hall j (List.getElem?_eq_some_iff.1 hp).1)) fM
   ·have Ml:=trivial;exact U8
 refine key ops.toArray.size _ a0 _ ai ai uE rfl rfl (fun j o e hj=>?_) (fun j p d hp qR hj=>?_) (fun t _=>rfl)
 ·exact uP
 ·exact uP
theorem IJ {ops:Array Oper} {p:Oper} {Q:Exit→Act→World→Prop} {ca:Act} {w:World} (h:xS ops=some p) (main:wpAny P .any ops.pop (jQ P ops p Q) ops.pop.size (Array.replicate ops.pop.size false) ca w):
  wpAny P .any ops Q ops.size (Array.replicate ops.size false) ca w:=by
 obtain⟨heq,h1,h2,h3⟩:=uX h;have hsz:ops.size=ops.pop.size+1:=by
  have:=congrArg Array.size heq;simpa using this
 have key:=II (P:=P) (Q:=Q) h1 h2 (fun i hi=>by rw [←heq];exact h3 i hi) ops.pop.size (Array.replicate ops.pop.size false) ca w ai (fun j o e hj=>by
   simp [Array.getElem?_replicate] at hj;split at hj<;>simp at hj) (by rw [←heq];exact main)
 exact Vn
theorem di (l:List Oper) (n:Nat) {p:Oper} {Q:Exit→Act→World→Prop} {ca:Act} {w:World} (hl:l=l.take n++[p]) (h:xS l.toArray=some p) (main:wpAny P .any (l.take n).toArray (jQ P l.toArray p Q) (l.take n).toArray.size (Array.replicate (l.take n).toArray.size false) ca w):
  wpAny P .any l.toArray Q l.toArray.size (Array.replicate l.toArray.size false) ca w:=by
 refine IJ h ?_;have:l.toArray.pop=(l.take n).toArray:=by
  rw [List.pop_toArray];congr 1;have h2:=congrArg List.dropLast hl;rw [List.dropLast_concat] at h2;exact h2
 rw [this];exact main
theorem jN {ops:List Oper} {a0 ca:Act} (hd:ca.defers=a0.defers) (hs:ca.tmps.size=a0.tmps.size) (fM:∀t,(∀(j:Nat) p,ops[j]?=some p→p.dst≠some t)→ca.tmps.getD t undef=a0.tmps.getD t undef):
  ca=⟨ops.foldl (fun tm o=>match o.dst with
   |some d=>tm.setIfInBounds d (ca.tmps.getD d undef)
   |none=>tm) a0.tmps,a0.defers⟩:=by
 have key:∀(ops:List Oper) (tm:Array Value),tm.size=ca.tmps.size→(∀t,(∀(j:Nat) p,ops[j]?=some p→p.dst≠some t)→ca.tmps.getD t undef=tm.getD t undef)→
   ca.tmps=ops.foldl (fun tm o=>match o.dst with
    |some d=>tm.setIfInBounds d (ca.tmps.getD d undef)
    |none=>tm) tm:=by
  intro ops
  induction ops with
  |nil=>
   intro tm hs h;apply Array.ext
   ·exact hs.symm
   ·intro i h1 h2;have:=h i (fun j p hp=>by simp at hp);have h2':i<tm.size:=h2;simp only [Array.getD,h1,h2',dif_pos] at this;exact this
  |cons o ops ih=>
   intro tm hs h;rw [List.foldl_cons];refine ih _ ?_ fun t ht=>?_
   ·cases o.dst<;>simp [hs]
   ·cases e:o.dst with
    |none=>
     refine h t fun j p hp=>?_
     cases j with
     |zero=>simp at hp;subst hp;rw [e];simp
     |succ j=>exact ht j p (by simpa using hp)
    |some d=>
     by_cases hdt:d=t
     ·subst hdt;by_cases hlt:d<tm.size
      ·simp [Array.getElem?_setIfInBounds,hlt]
      ·simp [Array.getElem?_setIfInBounds,hlt,←hs]
     ·have h1:ca.tmps.getD t undef=tm.getD t undef:=h t fun j p hp=>by
       cases j with
       |zero=>simp at hp;subst hp;rw [e];simpa using hdt
       |succ j=>exact ht j p (by simpa using hp)
      rw [h1];simp [Array.getElem?_setIfInBounds,hdt]
 have:=key ops a0.tmps hs.symm fM;cases ca with
 |mk tm df=>
  simp only at hd this ⊢;rw [hd];congr 1
end Go.Am