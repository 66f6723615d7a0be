/- A part of the proof. Conditions: none. -/
import Derived.Test.YtbgjanmheagilaaGreatDoorZz
import Derived.Test.YtbgjanmheagilaaGreatDoorNodesB
set_option linter.unusedVariables false
set_option linter.unusedSimpArgs false
set_option maxRecDepth 100000
set_option maxHeartbeats 8000000
namespace Go.Nodes
open Go Go.ChangeShapes Go.WideShapes Go.Deep
section
variable {H:Type} {enc:TypeId × Value→H} {P:Program} {W:World}
theorem wY {t e:TypeId} {fuel:Nat} {v:Value} {x:DataW H × List MemPlace} (ht:P.underlying t=some (.slice e)) (he:P.underlying e=some (.int .i64)) (hc:P.cellsOf e=1) (hB:1≤P.bytesOf e)
  (h:DataW.trod enc P W 0 (fun _=>true) true fuel t [v]=some x) (hw:∀z∈x.1.weights P t,z≤reachBytes):∃p cap xs,v=.slice p xs.length cap∧xs.length≤maxLen∧(∀k∈xs,i64 k)∧bR W p xs∧xs.length≤reachBytes∧xs.length≤cap:=by
 rcases open_ints ht he hc h with⟨h1,_⟩|⟨a,len,cap,zs,h1,_,hle,hm,hz,hx,hcell,hwf⟩
 ·simp at h1;subst h1;exact⟨none,0,[],rfl,by simp,by simp,.inl rfl,by simp,by simp⟩
 ·simp at h1;subst h1;simp only [if_true] at hz;have hlz:(zs.take len).length=len:=aV;have hr:len≤reachBytes:=by
   have h2:=hw (((lits .i64 (zs.take len)).length+(lits .i64 (zs.drop len):List (DataW H)).length)*P.bytesOf e) (by
    rw [hx];simp only [DataW.weights,ht];exact List.mem_cons_self)
   simp only [lits,List.length_map,List.length_take,List.length_drop] at h2;have h3:len*1≤(min len zs.length+(zs.length - len))*P.bytesOf e:=Nat.mul_le_mul aa hB;omega
  refine⟨some a,cap,zs.take len,by rw [hlz],by omega,fun k hk=>Fb (hwf k (List.mem_of_mem_take hk)), ?_,by omega,by omega⟩;by_cases h0:len=0
  ·left;subst h0;rfl
  ·right;have h00:=hcell 0 aa;have hs:=World.cell?_spot h00;obtain⟨b,o,sp⟩:=a;simp [Addr.add] at hs;subst hs;refine⟨b,o,rfl, ?_,fun i hi=>?_⟩
   ·have:=World.block_lt_of_cell? _ _ h00;simpa [Addr.add] using this
   ·have:=hcell i (by simp at hi;omega);rw [CR rfl] at this;rw [this];have Iq:i<zs.length:=by simp at hi;omega
    simp [List.getElem_take,List.getD,List.getElem?_eq_getElem Iq]
theorem wF {t e ti:TypeId} {f0 f1 f2 f3:Field} {fuel:Nat} {v:Value} {x:DataW H × List MemPlace} (ht:P.underlying t=some (.slice e)) (he:P.underlying e=some (.struct #[f0,f1,f2,f3]))
  (yR:oneCellFields P #[f0,f1,f2,f3]=true) (hC:P.cellsOf e=4) (u0:P.underlying f0.type=some (.int .i64)) (u1:P.underlying f1.type=some .string) (u2:P.underlying f2.type=some (.slice ti)) (ui:P.underlying ti=some (.int .i64)) (hci:P.cellsOf ti=1) (u3:P.underlying f3.type=some (.int .i64))
  (hB:1≤P.bytesOf e) (hBi:1≤P.bytesOf ti)
  (h:DataW.trod enc P W 0 (fun _=>true) true fuel t [v]=some x) (hw:∀z∈x.1.weights P t,z≤reachBytes):∃p cap ns,v=.slice p ns.length cap∧aj W p ns∧PW ns∧∀x∈ns,x.kids.length≤x.aC:=by
 rcases oa ht he yR hC h with⟨h1,_⟩|⟨a,len,cap,m,D,rest,h1,_,hle,hm,nc,hD,hf⟩
 ·simp at h1;subst h1;exact⟨none,0,[],rfl,⟨by simp,by simp,.inl rfl⟩,⟨by simp,by simp⟩,by simp⟩
 ·simp at h1;subst h1;simp only [if_true] at nc;have hlr:len≤reachBytes:=by
   have h2:=hw ((((List.range len).map D).length+rest.length)*P.bytesOf e) (by
    rw [hD];simp only [DataW.weights,ht];exact List.mem_cons_self)
   simp only [List.length_map,List.length_range] at h2;have h3:len*1≤(len+rest.length)*P.bytesOf e:=Nat.mul_le_mul aa hB;omega
  have hwD:∀i,i<len→∀parts,D i=.agg parts→∀(j:Nat) (t':TypeId) (d:DataW H),([f0,f1,f2,f3].map (·.type))[j]?=some t'→parts[j]?=some d→∀z∈d.weights P t',z≤reachBytes:=fun i hi parts hp j t' d FO hd z hz=>by
   refine hw z ?_;rw [hD];simp only [DataW.weights,ht,List.mem_cons,List.mem_append];right;left;refine lI (List.mem_map.2 ⟨i,List.mem_range.2 hi,rfl⟩) ?_;rw [hp];simp only [DataW.weights,he];exact DataW.weights_mem_each FO hd z hz
  have one:∀i,i<len→∃nd:Nd,(nd.fine W∧nd.text.size≤reachBytes∧nd.kids.length≤reachBytes∧nd.kids.length≤nd.aC)∧W.cell? (a.add (i*4+0))=some (.int .i64 nd.kind)∧W.cell? (a.add (i*4+1))=some (.string nd.text)∧W.cell? (a.add (i*4+2))=some (.slice nd.kp nd.kids.length nd.aC)∧W.cell? (a.add (i*4+3))=some (.int .i64 nd.place):=fun i hi=>by
   obtain⟨n,parts,hDi,hpl,hn⟩:=hf i aa;obtain⟨v0,y0,c0,r0,q0⟩:=hn 0 f0 rfl;obtain⟨v1,y1,c1,r1,q1⟩:=hn 1 f1 rfl;obtain⟨v2,y2,c2,r2,q2⟩:=hn 2 f2 rfl;obtain⟨v3,y3,c3,r3,q3⟩:=hn 3 f3 rfl;obtain⟨n0,e0,_,w0⟩:=DataW.trod_int u0 r0;obtain⟨s1,e1,g1,w1⟩:=DataW.trod_string u1 r1;obtain⟨kp,aC,ks,e2,w2,w4,w5,w6,w7⟩:=wY u2 ui hci hBi r2 (hwD i hi parts hDi 2 _ _ rfl q2);obtain⟨n3,e3,_,w3⟩:=DataW.trod_int u3 r3;have hs:=hwD i hi parts hDi 1 _ _ rfl q1 s1.data.toList.length (by rw [g1];simp only [DataW.weights,List.mem_singleton]);simp at e0 e1 e3;subst e0 e1 e2 e3;exact⟨⟨n0,s1,kp,aC,ks,n3⟩,⟨⟨Fb w0,Fb w3,w1,w2,w4,w5⟩,hs,w6,w7⟩,c0,c1,c2,c3⟩
  let nd:Nat→Nd:=fun i=>if h:i<len then Classical.choose (one i h) else⟨0,⟨#[]⟩,none,0,[],0⟩
  have Dw:∀i,(hi:i<len)→((nd i).fine W∧(nd i).text.size≤reachBytes∧(nd i).kids.length≤reachBytes∧(nd i).kids.length≤(nd i).aC)∧W.cell? (a.add (i*4+0))=some (.int .i64 (nd i).kind)∧W.cell? (a.add (i*4+1))=some (.string (nd i).text)∧W.cell? (a.add (i*4+2))=some (.slice (nd i).kp (nd i).kids.length (nd i).aC)∧W.cell? (a.add (i*4+3))=some (.int .i64 (nd i).place):=fun i hi=>by
   have hc:=Classical.choose_spec (one i hi);have wM:nd i=Classical.choose (one i hi):=by simp only [nd];rw [dif_pos hi]
   rw [wM];exact hc
  have hlen:((List.range len).map nd).length=len:=ai;refine⟨some a,_,(List.range len).map nd,by rw [hlen],⟨by omega,fun x hx=>?_, ?_⟩,⟨by omega,fun x hx=>?_⟩,fun x hx=>?_⟩
  ·simp only [List.mem_map,List.mem_range] at hx;obtain⟨i,hi,rfl⟩:=hx;exact(Dw i hi).1.1
  ·by_cases h0:len=0
   ·left;subst h0;rfl
   ·right;have h00:=(Dw 0 aa).2.1;have hs:=World.cell?_spot h00;obtain⟨b,o,sp⟩:=a;simp [Addr.add] at hs;subst hs;refine⟨b,o,rfl, ?_,fun i hi=>?_⟩
    ·have:=World.block_lt_of_cell? _ _ h00;simpa [Addr.add] using this
    ·have Iq:i<len:=by simpa using hi
     obtain⟨_,q0,q1,q2,q3⟩:=Dw i Iq;rw [CR rfl] at q0 q1 q2 q3;simp only [List.getElem_map,List.getElem_range];exact⟨q0,by rw [Nat.add_assoc];exact q1,by rw [Nat.add_assoc];exact q2,by rw [Nat.add_assoc];exact q3⟩
  ·simp only [List.mem_map,List.mem_range] at hx;obtain⟨i,hi,rfl⟩:=hx;exact⟨(Dw i hi).1.2.1,(Dw i hi).1.2.2.1⟩
  ·simp only [List.mem_map,List.mem_range] at hx;obtain⟨i,hi,rfl⟩:=hx;exact(Dw i hi).1.2.2.2
end
end Go.Nodes