/- A part of the proof. Conditions: none. -/
import Derived.Test.YtbgjanmheagilaaGreatDoorZz
import Derived.Test.YtbgjanmheagilaaGreatDoorOfX
import Derived.Test.YtbgjanmheagilaaGreatDoorLpX
import Derived.Test.YtbgjanmheagilaaGreatDoorEcX
set_option linter.unusedVariables false
set_option linter.unusedSimpArgs false
set_option maxRecDepth 100000
set_option maxHeartbeats 8000000
namespace Go.Proofs.YtbgjanmheagilaaGreatDoor
open Go Go.RowKit Go.Nodes
def Gq (ns:List Nd) (k:Int):Bool:=dA ns k.toNat||decide (ag ns k=36)|| !aq (ag ns k)
def xU (ns:List Nd) (A:List Int) (l:List Int):List Int:=(l.filter (Gq ns)).map fun k=>A.getD k.toNat 0
def aP (ns:List Nd):Nat→List Int × List Sd
 |0=>([],[])
 |j+1=>match ns[j]? with
  |none=>aP ns j
  |some x=>if dA ns j then((aP ns j).1++[((aP ns j).2.length:Int)],(aP ns j).2++[(12,⟨#[]⟩,[],0)])
   else if x.kind=36 then((aP ns j).1++[(aP ns j).1.getD (x.kids.getD 0 0).toNat 0],(aP ns j).2)
   else if aq x.kind then((aP ns j).1++[0],(aP ns j).2)
   else((aP ns j).1++[((aP ns j).2.length:Int)],(aP ns j).2++[(x.kind,x.text,xU ns (aP ns j).1 x.kids,x.place)])
theorem xV {ns:List Nd} {j:Nat} {x:Nd} (hx:ns[j]?=some x) (h:dA ns j=true):aP ns (j+1)=((aP ns j).1++[((aP ns j).2.length:Int)],(aP ns j).2++[(12,⟨#[]⟩,[],0)]):=by
 rw [aP,hx];simp [h]
theorem B6 {ns:List Nd} {j:Nat} {x:Nd} (hx:ns[j]?=some x) (h:dA ns j=false) (h2:x.kind=36):aP ns (j+1)=((aP ns j).1++[(aP ns j).1.getD (x.kids.getD 0 0).toNat 0],(aP ns j).2):=by
 rw [aP,hx];simp [h,h2]
theorem xW {ns:List Nd} {j:Nat} {x:Nd} (hx:ns[j]?=some x) (h:dA ns j=false) (h2:x.kind≠36) (h3:aq x.kind=true):aP ns (j+1)=((aP ns j).1++[0],(aP ns j).2):=by
 rw [aP,hx];simp [h,h2,h3]
theorem xX {ns:List Nd} {j:Nat} {x:Nd} (hx:ns[j]?=some x) (h3:aq x.kind=false):
  aP ns (j+1)=((aP ns j).1++[((aP ns j).2.length:Int)],(aP ns j).2++[(x.kind,x.text,xU ns (aP ns j).1 x.kids,x.place)]):=by
 have h2:x.kind≠36:=fun e=>by rw [e] at h3;cases h3
 rw [aP,hx];simp [kA hx h3,h2,h3]
theorem pY {d:Bool} {ns:List Nd} {F:Nat→List Int × List Sd} {val:Nat→Int} {ent:Nat→Sd} (h0:F 0=([],[])) {L:Nat}
  (hs:∀j,j<L→(laidB d ns j=true→F (j+1)=((F j).1++[((F j).2.length:Int)],(F j).2++[ent j]))∧(laidB d ns j=false→F (j+1)=((F j).1++[val j],(F j).2))):
  ∀j,j≤L→(F j).1.length=j∧(F j).2.length=gA d ns j∧(∀n,n<j→laidB d ns n=true→(F j).1.getD n 0=(gA d ns n:Int)∧(F j).2[gA d ns n]?=some (ent n))∧(∀n,n<j→laidB d ns n=false→(F j).1.getD n 0=val n)
 |0,_=>by rw [h0];exact⟨rfl,rfl,fun n hn=>by omega,fun n hn=>by omega⟩
 |j+1,hj=>by
  obtain⟨i1,i2,i3,i4⟩:=pY h0 hs j aa;have old:∀(v:Int) (n:Nat),n<j→((F j).1++[v]).getD n 0=(F j).1.getD n 0:=fun v n hn=>by
   simp only [List.getD_eq_getElem?_getD];rw [List.getElem?_append_left aa]
  have new:∀(v:Int),((F j).1++[v]).getD j 0=v:=fun v=>by
   simp only [List.getD_eq_getElem?_getD];rw [List.getElem?_append_right aa,i1];simp
  cases hl:laidB d ns j with
  |true=>
   rw [(hs j aa).1 hl];refine⟨by simp [i1],by simp [i2,iH,hl],fun n hn dW=>?_,fun n hn dW=>?_⟩
   ·by_cases e:n=j
    ·subst e;rw [new,i2];refine⟨rfl, ?_⟩;show((F n).2++[ent n])[gA d ns n]?=_;rw [List.getElem?_append_right aa,i2];simp
    ·rw [old _ _ aa];obtain⟨a,b⟩:=i3 n aa dW;refine⟨a, ?_⟩;show((F j).2++[ent j])[gA d ns n]?=_;rw [List.getElem?_append_left (by have:=(List.getElem?_eq_some_iff.1 b).1;exact this)];exact b
   ·by_cases e:n=j
    ·subst e;rw [hl] at dW;cases dW
    ·rw [old _ _ aa];exact i4 n aa dW
  |false=>
   rw [(hs j aa).2 hl];refine⟨by simp [i1],by simp [i2,iH,hl],fun n hn dW=>?_,fun n hn dW=>?_⟩
   ·by_cases e:n=j
    ·subst e;rw [hl] at dW;cases dW
    ·rw [old _ _ aa];exact i3 n aa dW
   ·by_cases e:n=j
    ·subst e;rw [new]
    ·rw [old _ _ aa];exact i4 n aa dW
theorem uY {ns:List Nd} {n:Nat} {x:Nd} (hx:ns[n]?=some x):laidB false ns n=(dA ns n|| !aq x.kind):=by unfold laidB;rw [ah hx];simp
def QH (ns:List Nd) (j:Nat):Sd:=match ns[j]? with
 |none=>(0,⟨#[]⟩,[],0)
 |some x=>if dA ns j then(12,⟨#[]⟩,[],0) else(x.kind,x.text,xU ns (aP ns j).1 x.kids,x.place)
def Ym (ns:List Nd) (j:Nat):Int:=match ns[j]? with
 |none=>0
 |some x=>if x.kind=36 then(aP ns j).1.getD (x.kids.getD 0 0).toNat 0 else 0
theorem ri (ns:List Nd):∀j,j<ns.length→(laidB false ns j=true→aP ns (j+1)=((aP ns j).1++[((aP ns j).2.length:Int)],(aP ns j).2++[QH ns j]))∧(laidB false ns j=false→aP ns (j+1)=((aP ns j).1++[Ym ns j],(aP ns j).2)):=by
 intro j hj;obtain⟨x,hx⟩:=ij hj;rw [uY hx];unfold QH Ym;rw [hx];simp only;cases ht:dA ns j with
 |true=>
  refine⟨fun _=>?_,fun h=>by simp at h⟩;rw [xV hx ht];rfl
 |false=>
  cases hk:aq x.kind with
  |false=>
   refine⟨fun _=>?_,fun h=>by simp at h⟩;rw [xX hx hk];rfl
  |true=>
   refine⟨fun h=>by simp at h,fun _=>?_⟩;by_cases e:x.kind=36
   ·rw [B6 hx ht e,if_pos e]
   ·rw [xW hx ht e hk,if_neg e]
theorem Val.num {ns:List Nd} (h:Val ns) {i:Nat} {x:Nd} (hx:ns[i]?=some x) (ht:aq x.kind=false) {k:Int} (hk:k∈x.kids):Gq ns k=true∧(aP ns i).1.getD k.toNat 0=jG false ns k:=by
 have hd:false=true→bX ns:=fun e=>nomatch e
 obtain⟨z,y,h1,h2,h3,h4,h5,h6⟩:=h.kr hx ht hk;obtain⟨z',y',b1,b2,b3,b4,b5⟩:=h.iG (d:=false) hd hx ht hk (by simp [bQ]);obtain rfl:z=z':=by have:=h1.symm.trans b1;omega
 have hrun:=pY rfl (ri ns);have hi:=Nat.le_of_lt (aG hx);rcases h6 with⟨e36,lA,q,b,rfl,hb,tb,hm⟩|⟨akZ,rfl⟩
 ·obtain⟨p,w,hq,hpw,hw⟩:=h.kid hx hk;obtain rfl:q=p:=aa;rw [hb] at hw;cases hw;have kb:b.kind=36:=by rw [←ah hb];exact e36
  have hnt:dA ns q=false:=by
   cases pZ:dA ns q with
   |false=>rfl
   |true=>
    unfold dA at pZ;simp only [Bool.and_eq_true,decide_eq_true_eq] at pZ;obtain⟨v,hv,tv,k',Bc,er⟩:=tT.1 pZ.2;obtain⟨r,hr,rfl⟩:=List.getElem_of_mem hv;have Yn:=List.getElem?_eq_getElem hr;obtain⟨z2,y2,c1,c2,c3,c4,c5,c6⟩:=h.kr Yn tv Bc;obtain rfl:z2=q:=by have:=c1.symm.trans er;omega
    rw [hb] at c3;cases c3;rcases c6 with⟨_,_,q2,b2',rfl,hb2,tb2,wG⟩|⟨ne,rfl⟩
    ·obtain rfl:=h.one hb2 hx wG hk;rw [hb2] at hx;cases hx;rw [tb2] at ht;cases ht
    ·exact absurd e36 ne
  have hl:laidB false ns q=false:=by rw [uY hb,hnt,tb];rfl
  obtain⟨r1,r2,r3,r4⟩:=hrun i hi;obtain⟨z3,y3,d1,d2,d3,d4⟩:=h.bound hb kb;have hz3:z3=z:=by
   have:rep ns (q:Int)=(z3:Int):=by
    unfold rep lN;rw [if_pos e36,Int.toNat_natCast,hb];exact d1
   have:=h1.symm.trans this;omega
  subst hz3;refine⟨by unfold Gq;rw [e36];simp, ?_⟩;rw [Int.toNat_natCast,r4 q hpw hl,b5];unfold Ym;rw [hb];simp only;rw [if_pos kb,d1,Int.toNat_natCast];obtain⟨_,_,s3,_⟩:=hrun q (Nat.le_of_lt (aG hb));exact(s3 z3 d3 b4).1
 ·obtain⟨_,_,s3,_⟩:=hrun i hi;refine⟨?_,by rw [Int.toNat_natCast,(s3 z h2 b4).1,b5]⟩;have:=(cT h3).1 b4;unfold Gq;rw [Int.toNat_natCast,ah h3];rcases this.1 with t|t
  ·rw [t];simp
  ·rw [t];simp
theorem rj {os:List Nd} {S:List Sd} (h:os.map strip=S) {i:Nat} {e:Sd} (hi:S[i]?=some e):∃y,os[i]?=some y∧y.kind=e.1∧y.text=e.2.1∧y.kids=e.2.2.1∧y.place=e.2.2.2:=by
 subst h;rw [List.getElem?_map] at hi;cases hy:os[i]? with
 |none=>rw [hy] at hi;simp at hi
 |some y=>
  rw [hy] at hi;simp only [Option.map_some,Option.some.injEq] at hi;subst hi;exact⟨y,rfl,rfl,rfl,rfl,rfl⟩
theorem uO {ns os:List Nd} (h:Val ns) (ho:os.map strip=(aP ns ns.length).2):Cut false ns os:=by
 obtain⟨r1,r2,r3,r4⟩:=pY rfl (ri ns) ns.length (Nat.le_refl _);refine⟨by have:=congrArg List.length ho;rw [List.length_map,r2] at this;exact this,fun n x hx hl ht=>?_,fun n x hx hl ht=>?_⟩
 ·obtain⟨y,g1,g2,g3,g4,g5⟩:=rj ho (r3 n (aG hx) hl).2;unfold QH at g2 g3 g4 g5;rw [hx] at g2 g3 g4 g5;simp only [ht,if_true] at g2 g3 g4 g5;exact⟨y,g1,g2,by rw [g3],g4,g5⟩
 ·obtain⟨y,g1,g2,g3,g4,g5⟩:=rj ho (r3 n (aG hx) hl).2;unfold QH at g2 g3 g4 g5;rw [hx] at g2 g3 g4 g5;simp only [ht,Bool.false_eq_true,if_false] at g2 g3 g4 g5;refine⟨y,g1,g2,g3,g5, ?_⟩;rw [g4];have wL:=((cT hx).1 hl).1;rw [ht] at wL;have wL:=wL.resolve_left ai;unfold xU;rw [List.filter_eq_self.2 (fun k hk=>(h.num hx wL hk).1),fq h hx (.inr rfl)];exact List.map_congr_left fun k hk=>(h.num hx wL hk).2
theorem su {ns ms:List Nd} (hC:Cut false ns ms):bX ms:=fun m y hy=>by
 obtain⟨n,x,hx,hl,_,hc⟩:=hC.src hy;rcases hc with⟨_,e,_⟩|⟨_,ht,e,_⟩
 ·rw [e];rfl
 ·rw [e];exact ht
theorem Gm {ns os:List Nd} (h:Val ns) (hu:bX ns) (ho:os.map strip=(cB ns ns.length).2):Cut true ns os:=by
 have Vq:∀(n:Nat) (x:Nd),ns[n]?=some x→laidB true ns n=decide (x.kind≠2):=fun n x hx=>by
  unfold laidB;rw [ah hx,hu n x hx,kA hx (hu n x hx)];simp
 have nO:∀(n:Nat) (x:Nd),ns[n]?=some x→x.kind≠36:=fun n x hx e=>by have:=hu n x hx;rw [e] at this;cases this
 have hstep:∀j,j<ns.length→(laidB true ns j=true→cB ns (j+1)=((cB ns j).1++[((cB ns j).2.length:Int)],(cB ns j).2++[(match ns[j]? with|none=>(0,⟨#[]⟩,[],0)|some x=>(x.kind,x.text,xY ns (cB ns j).1 x.kids,x.place))]))∧(laidB true ns j=false→cB ns (j+1)=((cB ns j).1++[0],(cB ns j).2)):=by
  intro j hj;obtain⟨x,hx⟩:=ij hj;rw [Vq j x hx];constructor
  ·intro e;rw [uZ hx (nO j x hx) (of_decide_eq_true e),hx]
  ·intro e;have e2:=of_decide_eq_false e;rw [DI hx (Classical.byContradiction fun q=>e2 q)]
 have hrun:=pY (F:=cB ns) (val:=fun _=>0) rfl hstep;obtain⟨r1,r2,r3,r4⟩:=hrun ns.length (Nat.le_refl _);refine⟨by have:=congrArg List.length ho;rw [List.length_map,r2] at this;exact this,fun n x hx hl ht=>?_,fun n x hx hl ht=>?_⟩
 ·rw [kA hx (hu n x hx)] at ht;cases ht
 ·obtain⟨y,g1,g2,g3,g4,g5⟩:=rj ho (r3 n (aG hx) hl).2;simp only [hx] at g2 g3 g4 g5;refine⟨y,g1,g2,g3,g5, ?_⟩;rw [g4];unfold xY;have hf:x.kids.filter (fun k=>ag ns k !=2)=x.kids.filter (bQ true ns):=List.filter_congr fun k _=>by unfold bQ;by_cases e:ag ns k=2<;>simp [e]
  rw [hf];refine List.map_congr_left fun k hk=>?_
  have hk:=List.mem_filter.1 hk;obtain⟨z,u,rfl,hz,hzu⟩:=h.kid hx hk.1;have hlz:laidB true ns z=true:=by
   rw [Vq z u hzu];have:=hk.2;unfold bQ at this;rw [ah hzu] at this;simpa using this
  rw [Int.toNat_natCast,jf hzu (hu z u hzu)];exact((hrun n (Nat.le_of_lt (aG hx))).2.2.1 z hz hlz).1
end Go.Proofs.YtbgjanmheagilaaGreatDoor
/- A part of the proof. Conditions: none. -/
set_option maxRecDepth 100000
set_option maxHeartbeats 8000000
namespace Go.Proofs.YtbgjanmheagilaaGreatDoor
open Go Go.RowKit Go.Nodes
theorem xJ (l:List Int):l.getD (l.length - 1) 0=l.getLast?.getD 0:=by
 rw [List.getLast?_eq_getElem?,List.getD]
theorem BW {p:Int→Bool} {l:List Int} {b:Int} (h:l.getLast?=some b) (hp:p b=true):(l.filter p).getLast?=some b:=by
 obtain⟨ys,rfl⟩:=List.getLast?_eq_some_iff.1 h;rw [List.filter_append];simp [hp]
theorem BX {d:Bool} {ns ms:List Nd} (h:Val ns) (hC:Cut d ns ms) (hd:d=true→bX ns) (he:(bp ns).e=0):au d ns (bp ns) (bp ms):=by
 obtain⟨l,x,hl,hx,hk,hll,JP⟩:=h.last (d:=d);have hlen:=zb h hC hl;obtain⟨y,g1,g2,g3,g4,g5⟩:=hC.aT l x hx hll JP;have fS:=(h.node l x (aG hx) hx).fits;rw [hk,show aI (1:Int).toNat=[104,42,98] by decide] at fS;have kW:=(xK fS).2;unfold aO at kW;rw [List.getLast?_map] at kW;cases hb:x.kids.getLast? with
 |none=>rw [hb] at kW;simp at kW
 |some b=>
  rw [hb] at kW;simp only [Option.map_some,Option.some.injEq] at kW;have Xt:b∈x.kids:=List.mem_of_getLast? hb;obtain⟨z,u,rfl,hz,hu⟩:=h.kid hx Xt;rw [ah hu] at kW;have hk3:u.kind=3:=aa;have tE:KS u:=by refine⟨by rw [hk3];rfl, ?_, ?_, ?_⟩<;>omega
  have FY:bQ d ns (z:Int)=true:=zR (by rw [ah hu,hk3];decide);have K1:aF ns ((ns.length:Int) - 1)=x.kids:=by
   rw [show((ns.length:Int) - 1)=(l:Int) by omega];exact jg hx
  have K2:aF ms ((ms.length:Int) - 1)=(x.kids.filter (bQ d ns)).map (jG d ns):=by
   rw [show((ms.length:Int) - 1)=(gA d ns l:Int) by have:=hlen.2;omega,jg g1];exact g5
  unfold bp at he ⊢;simp only [K1,K2] at he ⊢;rw [xJ,hb] at he ⊢;rw [xJ,List.getLast?_map,BW hb FY];simp only [Option.getD_some,Option.map_some] at he ⊢;rw [jf hu tE.1];refine BC hC h ns.length ms.length z u 0 false _ _ hu tE (aG hu) ?_ ⟨rfl,rfl,rfl, ?_,rfl, ?_,rfl,rfl⟩ he
  ·rw [hlen.2];have:=rY (d:=d) hz (tE.laid hu);omega
  ·intro i v v' hv;simp at hv
  ·intro v hv;simp at hv
structure Alike (ns bs:List Nd) (s t:Fs):Prop where
 vars:t.vars.length=s.vars.length
 funcs:t.funcs.length=s.funcs.length
 each:∀(i:Nat) (v v':Vr),s.vars[i]?=some v→t.vars[i]?=some v'→v'.fn=v.fn∧v'.taken=v.taken∧v'.set=v.set∧∃(n m:Nat) (x y:Nd),v.node=(n:Int)∧v'.node=(m:Int)∧ns[n]?=some x∧bs[m]?=some y∧y.text=x.text
theorem BZ {ns az bs:List Nd} (h:Val ns) (ha:az.map strip=(aP ns ns.length).2) (hb:bs.map strip=(cB az az.length).2) (he:(bp ns).e=0):
  Val az∧Val bs∧(bp bs).e=0∧Alike ns bs (bp ns) (bp bs):=by
 have C1:=uO h ha;have V1:=pU C1 h (fun e=>nomatch e);have U1:=su C1;have C2:=Gm V1 U1 hb;have V2:=pU C2 V1 (fun _=>U1);have S1:=BX h C1 (fun e=>nomatch e) he;have S2:=BX V1 C2 (fun _=>U1) S1.e';refine⟨V1,V2,S2.e',S2.len.trans S1.len,S2.funcs.trans S1.funcs,fun i v v'' hv agd=>?_⟩;have hi:=(List.getElem?_eq_some_iff.1 hv).1;have hv':(bp az).vars[i]?=some ((bp az).vars[i]'(by rw [S1.len];exact hi)):=List.getElem?_eq_getElem _;obtain⟨a1,a2,a3,n,x,a4,a5,a6,a7,a8⟩:=S1.vars i v _ hv hv';obtain⟨b1,b2,b3,m,y,b4,b5,b6,b7,b8⟩:=S2.vars i _ v'' hv' agd;obtain⟨y',c1,c2,c3,_⟩:=C1.plain a5 a6 a7;obtain⟨z',d1,d2,d3,_⟩:=C2.plain b5 b6 b7;obtain rfl:m=gA false ns n:=by rw [a8] at b4;omega
 rw [b5] at c1;cases c1;exact⟨b1.trans a1,b2.trans a2,b3.trans a3,n,_,x,z',a4,b8,a5,d1,d3.trans c3⟩
end Go.Proofs.YtbgjanmheagilaaGreatDoor
/- A part of the proof. Conditions: none. -/
set_option maxRecDepth 100000
set_option maxHeartbeats 8000000
namespace Go.Proofs.YtbgjanmheagilaaGreatDoor
open Go Go.RowKit Go.Nodes Go.WideMaps Go.Maps
attribute [local go_sem] Oper.semAt_some
def oZ (pre:List (Int × Bool)):Prop:=∀(i:Nat) (h:i<pre.length),pre[i].1=(i:Int)
theorem oZ.snoc {pre:List (Int × Bool)} {x:Int × Bool} (h:oZ (pre++[x])):oZ pre∧x.1=(pre.length:Int):=
 ⟨fun i hi=>by have:=h i aV;rwa [List.getElem_append_left hi] at this,by have:=h pre.length ai;simpa using this⟩
def Jl (w:World) (p:Option Addr) (L c:Nat) (ns:List Nd) (Mb Pb Tb:Nat) (pre:List (Int × Bool)) (W:World):Prop:=
 (Boxed W w.heap.size 22 (.slice p L c)∧Boxed W Tb 50 (.pointer (some ⟨Pb,0,none⟩)))∧Below w.heap.size w W∧
  ∃os n D,n≤pre.length∧os.length≤pre.length∧nM Mb Pb Mb W os n D∧(oZ pre→ko ns pre.length (cB ns pre.length).1 D∧os.map strip=(cB ns pre.length).2)
theorem dF {B Pb Mb n:Nat} {D:DataW Unit} {W W':World} {os:List Nd} {row:Option Nat} (h:nM B Pb Mb W os n D) (hg:W.grownBy W' row) (hr:∀r,row=some r→Mb<r∧∃o:Obj,W.heap[r]?=some o∧o.isCells=false):nM B Pb Mb W' os n D:=by
 obtain⟨⟨v,hP,hO⟩,hM,hK,PD,PE⟩:=h;have hne:∀(b:Nat) (c:Array Value) (t:Nat) (fz:Nat × Nat),W.heap[b]?=some (.cells c t fz)→some b≠row:=fun b c t fz hb e=>by
  obtain⟨_,o,ho,hc⟩:=hr b e.symm;rw [hb] at ho;cases ho;cases hc
 have hrow:∀{e:TypeId} {size:Nat} {v:Value} {n:Nat} {xs:List Value},W.ownsRow B e size v n xs→W'.ownsRow B e size v n xs:=fun {e size v n xs} h=>by
  refine h.kept hg ?_;cases hv:v.ownBlock with
  |none=>exact .inl rfl
  |some g=>
   obtain⟨c,fz,hh⟩:=Lib.ownsRow_kind h g hv;exact .inr (hne _ _ _ _ hh)
 exact⟨⟨v,(hg.block Pb (Array.getElem?_eq_some_iff.1 hP).1 (hne _ _ _ _ hP)).trans hP,hrow hO⟩,hM.kept hg fun e=>by have:=(hr Mb e.symm).1;omega,fun x hx=>hrow (hK x hx),PD,PE⟩
theorem Xo {B:Nat} (w:World) (p:Option Addr) (L c:Nat) (ns:List Nd) (Mb Pb Tb:Nat) (hM:Mb<B) (h:w.heap.size≤B):OwnFrom B (Jl w p L c ns Mb Pb Tb):=
 OwnFrom.and (OwnFrom.and (Own.from (boxed_own _ _ _) _) (Own.from (boxed_own _ _ _) _)) (OwnFrom.and (ownFrom_below (Nat.le_refl _) h)
  (fun pre W W' row hs hg hr=>by obtain⟨os,n,D,h1,h2,h3,h4⟩:=hs;exact⟨os,n,D,h1,h2,dF h3 hg fun r e=>⟨by have:=(hr r e).1;omega,(hr r e).2⟩,h4⟩))
theorem PY {w W:World} {p:Option Addr} {L c Mb Pb Tb:Nat} {ns:List Nd} {pre:List (Int × Bool)} {x:Int × Bool} {z:Nat} {nd:Nd} (h:Jl w p L c ns Mb Pb Tb pre W) (hz:x.1=(z:Int)) (hnz:ns[z]?=some nd) (hk:nd.kind=2):Jl w p L c ns Mb Pb Tb (pre++[x]) W:=by
 obtain⟨h1,h2,os,n,D,h3,h4,h5,h6⟩:=h;refine⟨h1,h2,os,n,D,by simp;omega,by simp;omega,h5,fun hg=>?_⟩;obtain⟨g1,g2⟩:=hg.snoc;obtain⟨r1,r2⟩:=h6 g1;obtain rfl:z=pre.length:=aa;have hlen:=pg ns pre.length (Nat.le_of_lt (List.getElem?_eq_some_iff.1 hnz).1);have eA:ag ns (pre.length:Int)=2:=by unfold ag;rw [Int.toNat_natCast,hnz];exact hk
 rw [List.length_append,show [x].length=1 from rfl,DI hnz hk];exact⟨A3 r1 hlen eA,r2⟩
theorem Xp {w W W':World} {p:Option Addr} {L c Mb Pb Tb:Nat} {ns:List Nd} {pre:List (Int × Bool)} {x:Int × Bool} {z:Nat} {nd:Nd} {os:List Nd} {n:Nat} {D:DataW Unit} {Xq:Option Addr} {Xr:Nat}
  (hb:Boxed W w.heap.size 22 (.slice p L c)) (ht:Boxed W Tb 50 (.pointer (some ⟨Pb,0,none⟩))) (hB:Below w.heap.size w W) (hz:x.1=(z:Int)) (hnz:ns[z]?=some nd) (hk:nd.kind≠36) (hk2:nd.kind≠2) (abv:∀k∈nd.kids,0≤k∧k<(z:Int))
  (h3:n≤pre.length) (h4:os.length≤pre.length) (h6:oZ pre→ko ns pre.length (cB ns pre.length).1 D∧os.map strip=(cB ns pre.length).2)
  (Ul:w.heap.size≤Mb) (hL:nM Mb Pb Mb W' (os++[⟨nd.kind,nd.text,Xq,Xr,eK D nd.kids,nd.place⟩]) (n+1) (D.put (.int .i64 (z:Int)) (.lit (.int .i64 (os.length:Int))))) (hK:Ke Mb Mb W W'):Jl w p L c ns Mb Pb Tb (pre++[x]) W':=by
 have JW:=trivial;exact Um
theorem Xs {w W W':World} {p:Option Addr} {L c Mb Pb Tb:Nat} {ns:List Nd} {pre:List (Int × Bool)} {x:Int × Bool} {z:Nat} {nd:Nd} {os:List Nd} {n:Nat} {D:DataW Unit} {u cv:Int}
  (h1:Boxed W w.heap.size 22 (.slice p L c)) (h2:Boxed W Tb 50 (.pointer (some ⟨Pb,0,none⟩))) (hB:Below w.heap.size w W) (hz:x.1=(z:Int)) (hnz:ns[z]?=some nd) (hk:nd.kind=36) (hu:u=nd.kids.getD 0 0) (PZ:0≤u) (huz:u<(z:Int))
  (h3:n≤pre.length) (h4:os.length≤pre.length) (hL:nM Mb Pb Mb W os n D) (h6:oZ pre→ko ns pre.length (cB ns pre.length).1 D∧os.map strip=(cB ns pre.length).2)
  (hcv:lK D u=cv) (hg:W.grownBy W' (some Mb)) (hM:jt W' Mb (n+1) (D.put (.int .i64 (z:Int)) (.lit (.int .i64 cv)))) (Ul:w.heap.size≤Mb):Jl w p L c ns Mb Pb Tb (pre++[x]) W'∧Ke Mb Mb W W':=by
 obtain⟨⟨v,hP,hO⟩,P0,P1,PD,PE⟩:=hL;obtain⟨es,clk,yU,_⟩:=id P0;have hlt:Mb<W.heap.size:=(Array.getElem?_eq_some_iff.1 yU).1;have xb:Ke Mb Mb W W':=by
  exact Un
 refine⟨⟨⟨xb.2.cells _ _ _ ay ay h1,xb.2.cells _ _ _ ay ay h2⟩,hB.trans (xb.1.mono Ul),os,n+1,_,by simp;omega,by simp;omega,⟨⟨v, ?_,hO.kept hg ?_⟩,hM,fun y hy=>iE (P1 y hy) xb.2,PD,PE⟩,fun hgd=>?_⟩,xb⟩
 ·exact JX
 ·exact JY
 ·obtain⟨g1,g2⟩:=hgd.snoc;obtain⟨r1,r2⟩:=h6 g1;obtain rfl:z=pre.length:=aa;have hlen:=pg ns pre.length (Nat.le_of_lt (List.getElem?_eq_some_iff.1 hnz).1);have eA:ag ns (pre.length:Int)≠2:=by unfold ag;rw [Int.toNat_natCast,hnz];show nd.kind≠2;rw [hk];decide
  obtain⟨y,rfl⟩:∃y:Nat,u=(y:Int):=⟨u.toNat,by omega⟩;have hval:=((r1.2 y).1 aa).2;rw [List.length_append,show [x].length=1 from rfl,FQ hnz hk,←hu,Int.toNat_natCast,←hval,hcv];exact⟨tO r1 hlen _ eA,r2⟩
def JZ (w:World) (p:Option Addr) (L c:Nat) (ns:List Nd) (Mb:Nat) (pre:List (Int × Bool)) (x:Int × Bool) (W6:World) (e:Ending) (w':World):Prop:=
 e=.returned (.tuple #[])∧Hid (Jl w p L c ns Mb (Mb+1) (Mb+2) (pre++[x]) w'∧Ke Mb Mb W6 w')
theorem yV (p:Option Addr) (c:Nat) (ns:List Nd) (w:World) (ha:aj w p ns) (hs:Small ns) (hc:eZ ns) (hl0:bu w):
  Calls Tryz.prog 12 #[.slice p ns.length c] w fun e w'=>Below w.heap.size w w'∧∃v n,e=.returned (.tuple #[v,.int .i64 n])∧
   n=(aS ns).2∧((n≠0∧v=.slice none 0 0)∨(n=0∧Sound ns∧∃B os,w.heap.size≤B∧os.map strip=(cB ns ns.length).2∧w'.ownsRow B 30 4 v os.length (iF os)∧∀x∈os,Ints B w' (.slice x.kp x.kids.length x.aC) x.kids)):=by
 have nc:= @run_makeMap Tryz.prog;have hdd:∀k:Nat,(Fence.wide.depth.isSome=true→1≤k):=fun k h=>by cases h
 obtain⟨n1,A4⟩:∃n1,(aS ns).1=n1:=⟨_,rfl⟩;obtain⟨n2,A5⟩:∃n2,(aS ns).2=n2:=⟨_,rfl⟩;have F1:Hid (∀w',Below w.heap.size w w'→CallsIn Fence.wide 2 Tryz.prog 27 #[.slice p ns.length c] w' (pn n1 n2 w')):=hid fun w' h=>callsIn_wide.2 (by have:=xd w' p c ns hs hc (aj.later ha h) (hl0.later h);rw [A4,A5] at this;exact this)
 obtain⟨L,hL⟩:∃L,L=ns.length:=⟨_,rfl⟩;rw [←hL] at F1 ⊢;have HL:=hid hL;have Ha:=hid ha;have Hs:=hid hs;have Hc:=hid hc;have Hn2:=hid A5;clear hL ha hl0 hs hc A4 A5;refine(callsIn_wide (n:=3)).1 ?_;refine callsIn_of_wp_marks Tryz.func12 rfl trivial ?_ rfl;simp only [Tryz.ntmps12,List.size_toArray,List.length_cons,List.length_nil,Nat.reduceAdd,Nat.reduceSub,Array.replicate_succ,Array.replicate_zero,List.push_toArray,List.append_toArray,List.nil_append,List.cons_append];by_cases e0:n2=0
 ·subst e0;have PF:=hid (A6 Hn2.out);gi_wp2_with (first
   |(refine⟨trivial, ?_⟩;(try refine⟨hdd _, ?_⟩);gi_at_call 27;((with_reducible refine(F1.out _ ?_).mono ?_);rotate_left;rintro e w' ⟨rfl,hb⟩;obtain⟨g1,rfl⟩:=aA hb;clear hb))
   |(refine⟨trivial, ?_⟩;(try refine⟨hdd _, ?_⟩);gi_at_call 28;refine(callsIn_wide.2 (A7 _ _ _ _)).mono ?_;rintro e w' ⟨rfl,rfl⟩))
  all_goals (try (repeat (first|exact Below.refl _ _|refine bG ?_ _|refine bI ?_ _ _|refine bA ?_ _)))
  obtain⟨Wm,J0⟩:∃Wm,grow (w.alloc (.cells #[.slice p L c] 22)) g1=Wm:=⟨_,rfl⟩;have hsz:Wm.heap.size=w.heap.size+1+g1.size:=by rw [←J0];simp
  have Xt:Below w.heap.size w Wm:=by rw [←J0];repeat (first|exact Below.refl _ _|refine bG ?_ _|refine bI ?_ _ _|refine bA ?_ _)
  have tP:Boxed Wm w.heap.size 22 (.slice p L c):=by rw [←J0];exact tQ (Boxed.new w 22 _) _
  rw [J0,←hsz];clear J0;obtain⟨Mb,Dj⟩:∃Mb,Wm.heap.size=Mb:=⟨_,rfl⟩;rw [Dj];obtain⟨W5,wK⟩:∃W5,(((Wm.alloc (.map #[] 0)).alloc (.cells #[.map (some Mb),.slice none 0 0] 53)).alloc (.cells #[.pointer (some ⟨Mb+1,0,none⟩)] 50)).alloc (.cells #[.slice p L c] 22)=W5:=⟨_,rfl⟩;rw [wK];have hS5:W5.heap.size=Mb+4:=by rw [←wK];simp [Dj]
  have Uo:Below Mb Wm W5:=by rw [←wK,←Dj];repeat (first|exact Below.refl _ _|refine bG ?_ _|refine bI ?_ _ _|refine bA ?_ _)
  have Ul:w.heap.size+1≤Mb:=aa;have P0:=(((World.ownsMap_made Wm Tryz.prog 3 (plainElem (H:=Unit) Tryz.prog 3)).alloc (.cells #[.map (some Mb),.slice none 0 0] 53)).alloc (.cells #[.pointer (some ⟨Mb+1,0,none⟩)] 50)).alloc (.cells #[.slice p L c] 22);rw [wK,Dj] at P0;have hJ0:Jl w p L c ns Mb (Mb+1) (Mb+2) [] W5:=by
   refine⟨⟨?_, ?_⟩,Xt.trans (Uo.mono aa),[],0,_,Nat.zero_le _,Nat.le_refl _,⟨⟨.slice none 0 0, ?_,by simp [iF],.inl ⟨rfl,by simp⟩⟩,P0,(fun x hx=>nomatch hx),by omega,Nat.le_refl _⟩,fun _=>⟨DJ ns,rfl⟩⟩
   ·rw [←wK];exact(((tP.alloc _).alloc _).alloc _).alloc _
   ·exact Up
   ·exact Uq
  have J1:Boxed W5 (Mb+3) 22 (.slice p L c):=by
   exact Ur
  clear wK hsz;rename_i K hK;refine wpIn_rangeFunc_ownG (n:=3) rfl aa (gf:=59) (lb:=#[.pointer (some ⟨Mb+3,0,none⟩)]) rfl trivial (enters_of Tryz.func59 ak rfl)
   (DK (3 - 1) (Mb+3) ns p c Wm (aj.later Ha.out Xt) Hs.out PF.out W5 (by rw [Dj];exact Uo) J1.lt (by rw [←HL.out];exact J1.cell)) abx (aby aa) (Below.refl _ _) (fun _=>rfl)
   (fun pre W6=>pre.length≤L∧Jl w p L c ns Mb (Mb+1) (Mb+2) (vals pre) W6)
   (fun cc pre W6=>False)
   (OwnFrom.and (ownFrom_pure _ _) (fun s X Y row h hg hr=>Xo w p L c ns Mb (Mb+1) (Mb+2) aa aa (vals s) X Y row h hg hr)) (fun cc=>ownFrom_pure _ _) ⟨Nat.zero_le _,hJ0⟩
   (fun x=>{tmps:=List.toArray (.slice p L c::.pointer (some ⟨w.heap.size,0,none⟩)::.slice none 0 0::.int .i64 0::.int .i64 n1::.int .i64 0::.pointer (some ⟨Mb+2,0,none⟩)::.int .i64 x.1.1::.tuple #[.int .i64 n1,.int .i64 0]::.slice p L c::.tuple #[.int .i64 n1,.int .i64 0]::.int .i64 n1::.int .i64 0::.int .i64 0::.bool false::undef::.map (some Mb)::.agg #[.map (some Mb),.slice none 0 0]::.pointer (some ⟨Mb+1,0,none⟩)::.slice p L c::.func (.func 59) #[] #[.pointer (some ⟨Mb+3,0,none⟩)]::.int .i64 x.1.1::.bool x.1.2::undef::undef::undef::undef::undef::undef::undef::undef::undef::undef::undef::undef::undef::undef::undef::undef::undef::undef::undef::undef::undef::undef::undef::undef::undef::undef::undef::undef::undef::undef::undef::undef::undef::undef::undef::undef::undef::[]),defers:=[]}) ?yX ?J2 ?J3 ?J4
  case yX=>
   intro l x W K hK;dsimp only [yY];gi_wp2;simpa [yY] using hK
  case J4=>
   intro D cc pre W _ _ h;exact h.elim
  case J2=>
   rintro l pre ⟨⟨xi,xt⟩,hx0,hx1,hx2⟩ W6 ⟨afk,hj⟩ hlen;obtain⟨z,rfl⟩:∃z:Nat,xi=(z:Int):=⟨xi.toNat,by simp at hx0;omega⟩;have hz:z<ns.length:=by simp at hx1;omega
   have hzL:(z:Int)<(L:Int):=dG;have z0:(0:Int)≤(z:Int):=aa;have JI:L≤5000:=by have:=HL.out;have:=Hs.out.1;omega
   have hpl:pre.length+1≤L:=dG;have Hj:=hid hj;obtain⟨⟨nI,lM⟩,DL,os,n,D,hn,G0,A8,hrel⟩:=hj;have hMl:Mb<W6.heap.size:=A8.map.lt;have A9:(vals pre).length=pre.length:=by simp [vals]
   have c1:=nI.cell;have c6:=lM.cell;obtain⟨b,o,rfl,hbl,hnz,bg,k0,k1,k2,k3⟩:=aY (aj.later Ha.out DL) hz;have HE:Hid (∀(y:og ns) (W':World),y.1=((z:Int),xt)→Jl w (some ⟨b,o,none⟩) L c ns Mb (Mb+1) (Mb+2) (vals pre++[((z:Int),xt)]) W'→Ke Mb Mb W6 W'→
     KeepsFrom W5.heap.size W6 W'∧Kc Wm.heap.size W6 W'∧(pre++[y]).length≤L∧Jl w (some ⟨b,o,none⟩) L c ns Mb (Mb+1) (Mb+2) (vals (pre++[y])) W'):=hid fun y W' hy hj hk=>
    ⟨hk.from aa,by rw [Dj];exact hk.kc,by rw [List.length_append];exact hpl,by rw [qE,hy];exact hj⟩
   have Dk:=nI.lt;have hTl:=lM.lt;have hnb:n≤100000:=aa;have hob:os.length≤100000:=aa;have Dl:=PF.out z _ hnz;by_cases h2:ns[z].kind=2
   ·have hsk:=hid (PY (x:=((z:Int),xt)) Hj.out rfl hnz h2);rw [h2] at k0;clear hrel A8 bg Dl h2 k1 k2 k3 nI lM;gi_wp2;exact HE.out _ _ rfl hsk.out (P2 _ _ _)
   ·by_cases nO:ns[z].kind=36
    ·obtain⟨bk,ok,iW,dz,ck⟩:=cF bg (j:=0) (Dl.2.2.2 nO);have h0:=Dl.2.2.2 nO;have Xu:ns[z].kids.getD 0 0∈ns[z].kids:=FR;have hu:i64 (ns[z].kids.getD 0 0):=bg.2.2.2.2.1 _ Xu;obtain⟨PZ,huz⟩:=Dl.1 _ Xu;have q0:(0:Int)<(ns[z].kids.length:Int):=aa;have q2:¬(ns[z].kids.length:Int)≤0:=aa;have q3:ns[z].kids.length≠0:=aa;have hM:=A8.map;have FT:=A8.box;obtain⟨v,FT,_⟩:=FT;have ck0:W6.cell? ⟨bk,ok,none⟩=some (.int .i64 (ns[z].kids.getD 0 0)):=ck;have HX:Hid (∀(cv:Int) (W7:World),lK D (ns[z].kids.getD 0 0)=cv→W6.drew.grownBy W7 (some Mb)→jt W7 Mb (n+1) (D.put (.int .i64 (z:Int)) (.lit (.int .i64 cv)))→
       Jl w (some ⟨b,o,none⟩) L c ns Mb (Mb+1) (Mb+2) (vals pre++[((z:Int),xt)]) W7∧Ke Mb Mb W6 W7):=hid fun cv W7 e1 e2 e3=>by
      have hx:=Xs (W:=W6.drew) (x:=((z:Int),xt)) nI lM DL.drew rfl hnz nO rfl PZ huz hn G0 (dF A8 (FU _) (fun r e=>nomatch e)) hrel e1 e2 e3 aa;exact⟨hx.1,FV hx.2⟩
     rw [nO] at k0;rw [iW] at k2;generalize ns[z].kids.getD 0 0=u at*;generalize ns[z].kids.length=q at*;have J5:=keyOf_int_mk (P:=Tryz.prog) (k:=3) Tryz.underlying3 (show(Lit.int .i64 u).wf=true from WalkArith.wf_i64 hu);have Us:=keyOf_int_mk (P:=Tryz.prog) (k:=3) Tryz.underlying3 (show(Lit.int .i64 (z:Int)).wf=true from WalkArith.wf_i64 aa);obtain⟨cv,hrun,hat,hcw⟩:=hM.drew.lookup_int G1 Tryz.underlying51 Tryz.underlying3 (rP _) J5;have Hv:=hid (yZ hat);have cP0:W6.cell? ⟨Mb+1,0,none⟩=some (.map (some Mb)):=Ba;have hPl:=(Array.getElem?_eq_some_iff.1 FT).1;have HM:=hid hM;clear hM FT iW hnz bg k1 k3 A8 hrel nI lM nO h2 Dl Xu hat Hj;gi_wp2
     (refine kD 17 ak ak ak ?_; simp only [List.take_succ_cons, List.take_zero, List.drop_succ_cons, List.drop_zero]; (repeat still_step); try refine wpStill_nil ?_)
     exact Ut
    ·have H13:Hid (∀W,Below W6.heap.size W6 W→Calls Tryz.prog 29 #[.pointer (some ⟨Mb+1,0,none⟩),.int .i64 (z:Int),.agg #[.int .i64 ns[z].kind,.string ns[z].text,.slice ns[z].kp ns[z].kids.length ns[z].aC,.int .i64 ns[z].place]] W (JZ w (some ⟨b,o,none⟩) L c ns Mb (vals pre) ((z:Int),xt) W6)):=
      hid fun W hW=>by
       obtain⟨_,_,_,_,_,hf,_⟩:=aY (aj.later Ha.out (DL.trans (hW.mono DL.size))) hz;refine(J6 Mb (Mb+1) Mb os n D hob hnb ns[z].kind ns[z].text ns[z].kp ns[z].aC ns[z].place ns[z].kids hf.2.2.2.2.1 (Hs.out.2 _ (List.getElem_mem hz)).1 W hf.2.2.2.2.2 (z:Int) ⟨by omega,by omega⟩ (dF A8 (tR hW) (fun r e=>nomatch e))).mono fun e w' ⟨h1,⟨Xq,Xr,h3⟩,h4,h5⟩=>⟨h1,hid ?_⟩
       have xb:Ke Mb Mb W6 w':=abB (tS hW aa) ⟨h4,h5⟩;exact⟨Xp nI lM DL rfl hnz nO h2 Dl.1 hn G0 hrel aa h3 xb,xb⟩
     have Bb:(ns[z].kind==36)=false:=by simp [nO]
     have hk2:(ns[z].kind==2)=false:=by simp [h2]
     clear hnz bg A8 hrel nI lM nO h2 Dl Hj;generalize ns[z].kind=kd at*;generalize ns[z].text=tx at*;generalize ns[z].kp=kp at*;generalize ns[z].kids.length=q at*;generalize ns[z].aC=kc at*;generalize ns[z].place=pl at*;gi_wp2
     (refine kD 6 ak ak ak ?_; simp only [List.take_succ_cons, List.take_zero, List.drop_succ_cons, List.drop_zero]; (repeat still_step); try refine wpStill_nil ?_)
     go_wp2_with (go_at_call 29;((with_reducible refine(H13.out _ ?_).mono ?_);rotate_left;rintro e w' ⟨rfl,Hw⟩))
     ·exact HE.out _ _ rfl Hw.out.1 Hw.out.2
     ·exact Below.drew (Below.refl _ _)
  case J3=>
   have P3:=trivial;exact abC
 ·have J7:=trivial;exact Uu
end Go.Proofs.YtbgjanmheagilaaGreatDoor
/- A part of the proof. Conditions: none. -/
set_option maxRecDepth 100000
set_option maxHeartbeats 8000000
namespace Go.Proofs.YtbgjanmheagilaaGreatDoor
open Go Go.RowKit Go.Nodes Go.Shelf
attribute [local go_sem] Oper.semAt_some
def nE (ns:List Nd) (S:List Int) (us:List Bool):Prop:=∀i:Nat,i<ns.length→us.getD i false=(aq (ag ns (i:Int)) && decide ((i:Int)∈S))
theorem B8 (ns:List Nd) (n:Nat):nE ns [] (List.replicate n false):=fun i h=>by
 rw [List.getD,List.getElem?_replicate];split<;>simp
def B9 (ns:List Nd) (i:Nat) (k:Int) (kids:List Int) (j:Nat) (us:List Bool):Prop:=nE ns (sS ns (ns.take i)++(if aq k then [] else(kids.take j).map (rep ns))) us
theorem EI {ns:List Nd} {i:Nat} {us:List Bool} (h:nE ns (sS ns (ns.take i)) us) (k:Int) (kids:List Int):B9 ns i k kids 0 us:=by
 unfold B9;have:(if aq k then [] else(kids.take 0).map (rep ns))=[]:=ai;rw [this,List.append_nil];exact h
theorem Mw {ns:List Nd} {i:Nat} {x:Nd} {q:Nat} (hx:ns[i]?=some x) (hq:q=x.kids.length) (us:List Bool) (h:B9 ns i x.kind x.kids q us):nE ns (sS ns (ns.take (i+1))) us:=by
 unfold B9 at h;rw [List.take_of_length_le (l:=x.kids) aa] at h;have:sS ns (ns.take (i+1))=sS ns (ns.take i)++(if aq x.kind then [] else x.kids.map (rep ns)):=by
  unfold sS;rw [List.take_add_one,hx];simp
 rw [this];exact h
theorem iC {ns:List Nd} {i j z:Nat} {k u:Int} {kids:List Int} {us:List Bool} {b tx ty ub:Bool} (h:B9 ns i k kids j us) (hk:kids.take (j+1)=kids.take j++[u]) (hl:us.length=ns.length) (hz:z<ns.length)
  (wL:aq k=tx) (hr:tx=true∨rep ns u=(z:Int)) (lA:aq (ag ns (z:Int))=ty) (fN:us.getD z false=ub) (hb:b=(ub||(ty && !tx))):B9 ns i k kids (j+1) (us.set z b):=by
 subst wL lA fN hb;intro n hn;have h0:=h n hn;have Mi:(us.set z (us.getD z false||(aq (ag ns (z:Int)) && !aq k))).getD n false=if n=z then(us.getD z false||(aq (ag ns (z:Int)) && !aq k)) else us.getD n false:=by
  by_cases e:n=z
  ·subst e;rw [if_pos rfl];generalize (us.getD n false||(aq (ag ns (n:Int)) && !aq k))=v;simp [List.getD,List.getElem?_set_self (show n<us.length by omega)]
  ·rw [if_neg e];generalize (us.getD z false||(aq (ag ns (z:Int)) && !aq k))=v;simp only [List.getD_eq_getElem?_getD];rw [List.getElem?_set_ne (fun h=>e h.symm)]
 rw [Mi];cases ht:aq k with
 |true=>
  rw [ht] at h0;simp only [if_true,List.append_nil] at h0 ⊢;by_cases e:n=z
  ·subst e;rw [if_pos rfl,h0];simp
  ·rw [if_neg e];exact h0
 |false=>
  rw [ht] at h0 hr;have hr:=hr.resolve_left ai;simp only [Bool.false_eq_true,if_false] at h0 ⊢;rw [hk,List.map_append,List.map_singleton,hr,←List.append_assoc];by_cases e:n=z
  ·subst e;rw [if_pos rfl,h0];cases aq (ag ns (n:Int))<;>simp
  ·rw [if_neg e,h0];have:¬(n:Int)=(z:Int):=aa;simp only [List.mem_append,List.mem_singleton,this,or_false]
theorem Yp {ns:List Nd} {z:Nat} {x:Nd} (hx:ns[z]?=some x) (h:x.kind=36):rep ns (z:Int)=x.kids.getD 0 0:=by
 unfold rep lN;rw [ah hx,if_pos h,Int.toNat_natCast,hx]
theorem Yq {ns:List Nd} {z:Nat} {x:Nd} (hx:ns[z]?=some x) (h:x.kind≠36):rep ns (z:Int)=(z:Int):=by
 unfold rep;rw [ah hx,if_neg h]
theorem Mx (n l Bl:Nat) (J Jx:List (Int × Bool)→World→Prop) (Kp:World→World→Prop) (ns:List Nd) (p:Option Addr) (c:Nat) (w0:World) (ha:aj w0 p ns) (hs:Small ns) (QK:Sound ns)
  (hKp:∀(A B:World) (b:Nat) (cs:Array Value),w0.heap.size≤b→Kp A B→A.heap[b]?=some (.cells cs 4 (0,0))→B.heap[b]?=some (.cells cs 4 (0,0))) (hKb:∀(A B:World),Kp A B→Below w0.heap.size A B)
  (hY:∀pre x W,J pre W→pre.length<ns.length→x.1=(pre.length:Int)→x.2=dA ns pre.length→YieldAt Fence.wide (n - 1) Tryz.prog l (yY x) W fun e W'=>
   (e=.returned (.bool true)∧J (pre++[x]) W'∧Kp W W')∨(e=.returned (.bool false)∧Jx (pre++[x]) W'))
  (W:World) (hB:Below w0.heap.size w0 W) (hJ:AbidesFrom W.heap.size J) (Ca:Bl<W.heap.size) (hBl:W.cell? ⟨Bl,0,none⟩=some (.slice p ns.length c)) (h0:J [] W):
  CallsIn Fence.wide n Tryz.prog 59 #[.func (.yield l) #[] #[],.pointer (some ⟨Bl,0,none⟩)] W fun e W'=>(∃v,e=.returned v)∧
   ((∃ys:List (Int × Bool),(ys.length=ns.length∧∀(i:Nat) (h:i<ys.length),ys[i].1=(i:Int)∧ys[i].2=dA ns i)∧J ys W')∨(∃pre,Jx pre W')):=by
 have QL:=trivial;exact acP
end Go.Proofs.YtbgjanmheagilaaGreatDoor
/- A part of the proof. Conditions: none. -/
set_option maxRecDepth 100000
set_option maxHeartbeats 8000000
namespace Go.Proofs.YtbgjanmheagilaaGreatDoor
open Go Go.RowKit Go.Nodes Go.WideMaps Go.Maps
attribute [local go_sem] Oper.semAt_some
def YsX (ns:List Nd) (ys:List (Int × Bool)):Prop:=ys.length=ns.length∧∀(i:Nat) (h:i<ys.length),ys[i].1=(i:Int)∧ys[i].2=dA ns i
def vN (ns:List Nd):Type:={x:Int × Bool // 0≤x.1∧x.1<(ns.length:Int)∧x.2=dA ns x.1.toNat}
def mS {ns:List Nd} (ys:List (vN ns)):List (Int × Bool):=ys.map (·.1)
theorem rH {ns:List Nd} (l:List (vN ns)) (x:vN ns):mS (l++[x])=mS l++[x.1]:=List.map_append ..
theorem CN (n Bl:Nat) (ns:List Nd) (p:Option Addr) (c:Nat) (w:World) (ha:aj w p ns) (hs:Small ns) (QK:Sound ns) (w1:World) (hB:Below w.heap.size w w1) (Ca:Bl<w1.heap.size) (hBl:w1.cell? ⟨Bl,0,none⟩=some (.slice p ns.length c)):
  SeqStopsK Fence.wide n Tryz.prog 59 #[.pointer (some ⟨Bl,0,none⟩)] (fun x:vN ns=>yY x.1) (Kc w.heap.size) (fun ys=>YsX ns (mS ys)) (fun _=>True) ns.length w1:=fun l J Jx W hW hJ _ hY h0=>
 (Mx n l Bl (fun pre W=>∃pre':List (vN ns),mS pre'=pre∧J pre' W) (fun pre W=>∃pre':List (vN ns),mS pre'=pre∧Jx pre' W) (Kc w.heap.size) ns p c w ha hs QK (fun A B b cs _ h=>h.2 b cs 4 ay ay) (fun A B h=>h.1)
  (fun pre x W1 ⟨pre',hp,hj⟩ hlen h1 h2=>by
   have ME:pre'.length<ns.length:=by rw [←hp] at hlen;simpa [mS] using hlen
   have hx:0≤x.1∧x.1<(ns.length:Int)∧x.2=dA ns x.1.toNat:=⟨by omega,by omega,by rw [h2,h1,Int.toNat_natCast]⟩;obtain⟨fn,tmps,assign,body,hy,hR⟩:=hY pre' ⟨x,hx⟩ W1 hj ME;exact⟨fn,tmps,assign,body,hy,hR.mono fun e W' h=>h.elim (fun⟨e1,j1,k1⟩=>.inl ⟨e1,⟨_,by rw [←hp];exact rH _ _,j1⟩,k1⟩) (fun⟨e1,j1⟩=>.inr ⟨e1,_,by rw [←hp];exact rH _ _,j1⟩)⟩)
  W (hB.trans (hW.mono hB.size)) (fun s X Y row ⟨pre',hp,hj⟩ hg hr=>⟨pre',hp,hJ pre' X Y row hj hg hr⟩) (Nat.lt_of_lt_of_le Ca hW.size) ((hW.cell (p:=⟨Bl,0,none⟩) Ca).trans hBl) ⟨[],rfl,h0⟩).mono
  fun e W' h=>⟨h.1,h.2.elim (fun⟨ys,JU,pre',hp,hj⟩=>.inl ⟨pre',by show YsX ns (mS pre');rw [hp];exact JU,hj⟩) fun⟨pre,pre',_,h⟩=>.inr ⟨pre',trivial,h⟩⟩
def fH (ns:List Nd) (j:Nat) (A:List Int) (D:DataW Unit):Prop:=
 IsMap D∧∀k:Nat,(k<j→Maps.has D (.int .i64 (k:Int))=Gq ns (k:Int)∧lK D (k:Int)=A.getD k 0)∧(j≤k→Maps.has D (.int .i64 (k:Int))=false)
theorem CO (ns:List Nd):fH ns 0 [] (DataW.map []):=⟨⟨[],rfl⟩,fun k=>⟨fun h=>by omega,fun _=>rfl⟩⟩
theorem sF {ns:List Nd} {j:Nat} {A:List Int} {D:DataW Unit} (h:fH ns j A D) (hA:A.length=j) (v:Int) (hk:Gq ns (j:Int)=true):fH ns (j+1) (A++[v]) (D.put (.int .i64 (j:Int)) (.lit (.int .i64 v))):=by
 refine⟨yu h.1 _ _,fun k=>⟨fun hkj=>?_,fun hkj=>?_⟩⟩
 ·by_cases e:k=j
  ·subst e;refine⟨?_, ?_⟩
   ·rw [has_put_same h.1 (show WideAt.IsKeyLit (.int .i64 (k:Int)) from trivial),hk]
   ·rw [nU h.1,←hA,qp]
  ·exact WC
 ·exact NQ
theorem Ar {ns:List Nd} {j:Nat} {A:List Int} {D:DataW Unit} (h:fH ns j A D) (hA:A.length=j) (hk:Gq ns (j:Int)=false):fH ns (j+1) (A++[0]) D:=by
 refine⟨h.1,fun k=>⟨fun hkj=>?_,fun hkj=>(h.2 k).2 aa⟩⟩;by_cases e:k=j
 ·subst e;have h1:=(h.2 k).2 (Nat.le_refl _);refine⟨by rw [h1,hk], ?_⟩;rw [yw h1,←hA,qp]
 ·have h1:=(h.2 k).1 aa;exact⟨h1.1,by rw [vE _ _ aa];exact h1.2⟩
theorem yx {ns:List Nd} {j:Nat} {A:List Int} {D:DataW Unit} (h:fH ns j A D):∀(l:List Int),(∀k∈l,0≤k∧k<(j:Int))→eK D l=xU ns A l
 |[],_=>rfl
 |k::l,hl=>by
  obtain⟨h0,h1⟩:=hl k ai;obtain⟨z,rfl⟩:∃z:Nat,k=(z:Int):=⟨k.toNat,by omega⟩;obtain⟨e1,e2⟩:=(h.2 z).1 aa;have ih:=yx h l (fun k hk=>hl k (by simp [hk]));unfold eK at ih ⊢;unfold xU at ih ⊢;rw [List.filterMap_cons,List.filter_cons,e1,ih,e2];by_cases hk:Gq ns (z:Int)=true
  ·simp [hk]
  ·simp [hk]
theorem rF {ns:List Nd} {j:Nat} (h:j≤ns.length):(aP ns j).1.length=j:=(pY rfl (ri ns) j h).1
def Jx (w:World) (p:Option Addr) (L c:Nat) (ns:List Nd) (Mb Pb Tb:Nat) (pre:List (Int × Bool)) (W:World):Prop:=
 (Boxed W w.heap.size 22 (.slice p L c)∧Boxed W Tb 50 (.pointer (some ⟨Pb,0,none⟩)))∧Below w.heap.size w W∧
  ∃os n D,n≤pre.length∧os.length≤pre.length∧nM Mb Pb Mb W os n D∧(oZ pre→fH ns pre.length (aP ns pre.length).1 D∧os.map strip=(aP ns pre.length).2)
theorem aai {B:Nat} (w:World) (p:Option Addr) (L c:Nat) (ns:List Nd) (Mb Pb Tb:Nat) (hM:Mb<B) (h:w.heap.size≤B):OwnFrom B (Jx w p L c ns Mb Pb Tb):=
 OwnFrom.and (OwnFrom.and (Own.from (boxed_own _ _ _) _) (Own.from (boxed_own _ _ _) _)) (OwnFrom.and (ownFrom_below (Nat.le_refl _) h)
  (fun pre W W' row hs hg hr=>by obtain⟨os,n,D,h1,h2,h3,h4⟩:=hs;exact⟨os,n,D,h1,h2,dF h3 hg fun r e=>⟨by have:=(hr r e).1;omega,(hr r e).2⟩,h4⟩))
theorem OL {w W W':World} {p:Option Addr} {L c Mb Pb Tb:Nat} {ns:List Nd} {pre:List (Int × Bool)} (h:Jx w p L c ns Mb Pb Tb pre W) (hb:W.grownBy W' none):Jx w p L c ns Mb Pb Tb pre W':=by
 obtain⟨h1,h2,os,n,D,h3,h4,h5,h6⟩:=h;exact⟨⟨h1.1.kept hb ai,h1.2.kept hb ai⟩,h2.grown hb h2.size (fun r e=>nomatch e),os,n,D,h3,h4,dF h5 hb (fun r e=>nomatch e),h6⟩
theorem Au {ns:List Nd} {z:Nat} {x:Nd} (hx:ns[z]?=some x):Gq ns (z:Int)=(dA ns z||decide (x.kind=36)|| !aq x.kind):=by unfold Gq;rw [Int.toNat_natCast,ah hx]
theorem TX {w W:World} {p:Option Addr} {L c Mb Pb Tb:Nat} {ns:List Nd} {pre:List (Int × Bool)} {x:Int × Bool} {z:Nat} {nd:Nd} (h:Jx w p L c ns Mb Pb Tb pre W) (hz:x.1=(z:Int)) (hnz:ns[z]?=some nd) (ht:dA ns z=false) (hk:nd.kind≠36) (lA:aq nd.kind=true):Jx w p L c ns Mb Pb Tb (pre++[x]) W:=by
 obtain⟨h1,h2,os,n,D,h3,h4,h5,h6⟩:=h;refine⟨h1,h2,os,n,D,by simp;omega,by simp;omega,h5,fun hg=>?_⟩;obtain⟨g1,g2⟩:=hg.snoc;obtain⟨r1,r2⟩:=h6 g1;obtain rfl:z=pre.length:=aa;have hlen:=rF (Nat.le_of_lt (List.getElem?_eq_some_iff.1 hnz).1);have eA:Gq ns (pre.length:Int)=false:=by rw [Au hnz,ht,lA];simp [hk]
 rw [List.length_append,show [x].length=1 from rfl,xW hnz ht hk lA];exact⟨Ar r1 hlen eA,r2⟩
theorem aaj {w W W':World} {p:Option Addr} {L c Mb Pb Tb:Nat} {ns:List Nd} {pre:List (Int × Bool)} {x:Int × Bool} {z:Nat} {nd:Nd} {os:List Nd} {n:Nat} {D:DataW Unit} {Xq:Option Addr} {Xr:Nat} {kd pl:Int} {tx:ByteArray} {kids:List Int}
  (hb:Boxed W w.heap.size 22 (.slice p L c)) (ht:Boxed W Tb 50 (.pointer (some ⟨Pb,0,none⟩))) (hB:Below w.heap.size w W) (hz:x.1=(z:Int)) (hnz:ns[z]?=some nd) (F4:Gq ns (z:Int)=true)
  (hstep:fH ns z (aP ns z).1 D→aP ns (z+1)=((aP ns z).1++[((aP ns z).2.length:Int)],(aP ns z).2++[(kd,tx,eK D kids,pl)]))
  (h3:n≤pre.length) (h4:os.length≤pre.length) (h6:oZ pre→fH ns pre.length (aP ns pre.length).1 D∧os.map strip=(aP ns pre.length).2)
  (Ul:w.heap.size≤Mb) (hL:nM Mb Pb Mb W' (os++[⟨kd,tx,Xq,Xr,eK D kids,pl⟩]) (n+1) (D.put (.int .i64 (z:Int)) (.lit (.int .i64 (os.length:Int))))) (hK:Ke Mb Mb W W'):Jx w p L c ns Mb Pb Tb (pre++[x]) W':=by
 have OA:=trivial;exact Um
theorem aak {w W W':World} {p:Option Addr} {L c Mb Pb Tb:Nat} {ns:List Nd} {pre:List (Int × Bool)} {x:Int × Bool} {z:Nat} {nd:Nd} {os:List Nd} {n:Nat} {D:DataW Unit} {u cv:Int}
  (h1:Boxed W w.heap.size 22 (.slice p L c)) (h2:Boxed W Tb 50 (.pointer (some ⟨Pb,0,none⟩))) (hB:Below w.heap.size w W) (hz:x.1=(z:Int)) (hnz:ns[z]?=some nd) (hk:nd.kind=36) (hnt:dA ns z=false) (hu:u=nd.kids.getD 0 0) (PZ:0≤u) (huz:u<(z:Int))
  (h3:n≤pre.length) (h4:os.length≤pre.length) (hL:nM Mb Pb Mb W os n D) (h6:oZ pre→fH ns pre.length (aP ns pre.length).1 D∧os.map strip=(aP ns pre.length).2)
  (hcv:lK D u=cv) (hg:W.grownBy W' (some Mb)) (hM:jt W' Mb (n+1) (D.put (.int .i64 (z:Int)) (.lit (.int .i64 cv)))) (Ul:w.heap.size≤Mb):Jx w p L c ns Mb Pb Tb (pre++[x]) W'∧Ke Mb Mb W W':=by
 obtain⟨⟨v,hP,hO⟩,P0,P1,PD,PE⟩:=hL;obtain⟨es,clk,yU,_⟩:=id P0;have hlt:Mb<W.heap.size:=(Array.getElem?_eq_some_iff.1 yU).1;have xb:Ke Mb Mb W W':=by
  exact Un
 refine⟨⟨⟨xb.2.cells _ _ _ ay ay h1,xb.2.cells _ _ _ ay ay h2⟩,hB.trans (xb.1.mono Ul),os,n+1,_,by simp;omega,by simp;omega,⟨⟨v, ?_,hO.kept hg ?_⟩,hM,fun y hy=>iE (P1 y hy) xb.2,PD,PE⟩,fun hgd=>?_⟩,xb⟩
 ·exact JX
 ·exact JY
 ·obtain⟨g1,g2⟩:=hgd.snoc;obtain⟨r1,r2⟩:=h6 g1;obtain rfl:z=pre.length:=aa;have hlen:=rF (Nat.le_of_lt (List.getElem?_eq_some_iff.1 hnz).1);have eA:Gq ns (pre.length:Int)=true:=by rw [Au hnz,hk];simp
  obtain⟨y,rfl⟩:∃y:Nat,u=(y:Int):=⟨u.toNat,by omega⟩;have hval:=((r1.2 y).1 aa).2;rw [List.length_append,show [x].length=1 from rfl,B6 hnz hnt hk,←hu,Int.toNat_natCast,←hval,hcv];exact⟨sF r1 hlen _ eA,r2⟩
def adS (w:World) (p:Option Addr) (L c:Nat) (ns:List Nd) (Mb:Nat) (pre:List (Int × Bool)) (x:Int × Bool) (W6:World) (e:Ending) (w':World):Prop:=
 e=.returned (.tuple #[])∧Hid (Jx w p L c ns Mb (Mb+1) (Mb+2) (pre++[x]) w'∧Ke Mb Mb W6 w')
theorem Je (p:Option Addr) (c:Nat) (ns:List Nd) (w:World) (ha:aj w p ns) (hs:Small ns) (hc:eZ ns) (hl0:bu w):
  Calls Tryz.prog 10 #[.slice p ns.length c] w fun e w'=>Below w.heap.size w w'∧∃v n,e=.returned (.tuple #[v,.int .i64 n])∧
   n=(aS ns).2∧((n≠0∧v=.slice none 0 0)∨(n=0∧Sound ns∧∃B os,w.heap.size≤B∧os.map strip=(aP ns ns.length).2∧w'.ownsRow B 30 4 v os.length (iF os)∧∀x∈os,Ints B w' (.slice x.kp x.kids.length x.aC) x.kids)):=by
 have nc:= @run_makeMap Tryz.prog;have hdd:∀k:Nat,(Fence.wide.depth.isSome=true→1≤k):=fun k h=>by cases h
 obtain⟨n1,A4⟩:∃n1,(aS ns).1=n1:=⟨_,rfl⟩;obtain⟨n2,A5⟩:∃n2,(aS ns).2=n2:=⟨_,rfl⟩;have F1:Hid (∀w',Below w.heap.size w w'→CallsIn Fence.wide 2 Tryz.prog 27 #[.slice p ns.length c] w' (pn n1 n2 w')):=hid fun w' h=>callsIn_wide.2 (by have:=xd w' p c ns hs hc (aj.later ha h) (hl0.later h);rw [A4,A5] at this;exact this)
 obtain⟨L,hL⟩:∃L,L=ns.length:=⟨_,rfl⟩;rw [←hL] at F1 ⊢;have HL:=hid hL;have Ha:=hid ha;have Hs:=hid hs;have Hc:=hid hc;have Hn2:=hid A5;clear hL ha hl0 hs hc A4 A5;refine(callsIn_wide (n:=3)).1 ?_;refine callsIn_of_wp_marks Tryz.func10 rfl trivial ?_ rfl;simp only [Tryz.ntmps10,List.size_toArray,List.length_cons,List.length_nil,Nat.reduceAdd,Nat.reduceSub,Array.replicate_succ,Array.replicate_zero,List.push_toArray,List.append_toArray,List.nil_append,List.cons_append];by_cases e0:n2=0
 ·subst e0;have PF:=hid (A6 Hn2.out);gi_wp2_with (first
   |(refine⟨trivial, ?_⟩;(try refine⟨hdd _, ?_⟩);gi_at_call 27;((with_reducible refine(F1.out _ ?_).mono ?_);rotate_left;rintro e w' ⟨rfl,hb⟩;obtain⟨g1,rfl⟩:=aA hb;clear hb))
   |(refine⟨trivial, ?_⟩;(try refine⟨hdd _, ?_⟩);gi_at_call 28;refine(callsIn_wide.2 (A7 _ _ _ _)).mono ?_;rintro e w' ⟨rfl,rfl⟩))
  all_goals (try (repeat (first|exact Below.refl _ _|refine bG ?_ _|refine bI ?_ _ _|refine bA ?_ _)))
  obtain⟨Wm,J0⟩:∃Wm,grow (w.alloc (.cells #[.slice p L c] 22)) g1=Wm:=⟨_,rfl⟩;have hsz:Wm.heap.size=w.heap.size+1+g1.size:=by rw [←J0];simp
  have Xt:Below w.heap.size w Wm:=by rw [←J0];repeat (first|exact Below.refl _ _|refine bG ?_ _|refine bI ?_ _ _|refine bA ?_ _)
  have tP:Boxed Wm w.heap.size 22 (.slice p L c):=by rw [←J0];exact tQ (Boxed.new w 22 _) _
  rw [J0,←hsz];clear J0;obtain⟨Mb,Dj⟩:∃Mb,Wm.heap.size=Mb:=⟨_,rfl⟩;rw [Dj];obtain⟨W5,wK⟩:∃W5,(((Wm.alloc (.map #[] 0)).alloc (.cells #[.map (some Mb),.slice none 0 0] 53)).alloc (.cells #[.pointer (some ⟨Mb+1,0,none⟩)] 50)).alloc (.cells #[.slice p L c] 22)=W5:=⟨_,rfl⟩;rw [wK];have hS5:W5.heap.size=Mb+4:=by rw [←wK];simp [Dj]
  have Uo:Below Mb Wm W5:=by rw [←wK,←Dj];repeat (first|exact Below.refl _ _|refine bG ?_ _|refine bI ?_ _ _|refine bA ?_ _)
  have Ul:w.heap.size+1≤Mb:=aa;have P0:=(((World.ownsMap_made Wm Tryz.prog 3 (plainElem (H:=Unit) Tryz.prog 3)).alloc (.cells #[.map (some Mb),.slice none 0 0] 53)).alloc (.cells #[.pointer (some ⟨Mb+1,0,none⟩)] 50)).alloc (.cells #[.slice p L c] 22);rw [wK,Dj] at P0;have hJ0:Jx w p L c ns Mb (Mb+1) (Mb+2) [] W5:=by
   refine⟨⟨?_, ?_⟩,Xt.trans (Uo.mono aa),[],0,_,Nat.zero_le _,Nat.le_refl _,⟨⟨.slice none 0 0, ?_,by simp [iF],.inl ⟨rfl,by simp⟩⟩,P0,(fun x hx=>nomatch hx),by omega,Nat.le_refl _⟩,fun _=>⟨CO ns,rfl⟩⟩
   ·rw [←wK];exact(((tP.alloc _).alloc _).alloc _).alloc _
   ·exact Up
   ·exact Uq
  have J1:Boxed W5 (Mb+3) 22 (.slice p L c):=by
   exact Ur
  clear wK hsz;rename_i K hK;refine wpIn_rangeFunc_ownG (n:=3) rfl aa (gf:=59) (lb:=#[.pointer (some ⟨Mb+3,0,none⟩)]) rfl trivial (enters_of Tryz.func59 ak rfl)
   (CN (3 - 1) (Mb+3) ns p c Wm (aj.later Ha.out Xt) Hs.out PF.out W5 (by rw [Dj];exact Uo) J1.lt (by rw [←HL.out];exact J1.cell)) abx (aby aa) (Below.refl _ _) (fun _=>rfl)
   (fun pre W6=>pre.length≤L∧Jx w p L c ns Mb (Mb+1) (Mb+2) (mS pre) W6)
   (fun cc pre W6=>False)
   (OwnFrom.and (ownFrom_pure _ _) (fun s X Y row h hg hr=>aai w p L c ns Mb (Mb+1) (Mb+2) aa aa (mS s) X Y row h hg hr)) (fun cc=>ownFrom_pure _ _) ⟨Nat.zero_le _,hJ0⟩
   (fun x=>{tmps:=List.toArray (.slice p L c::.pointer (some ⟨w.heap.size,0,none⟩)::.slice none 0 0::.int .i64 0::.int .i64 n1::.int .i64 0::.pointer (some ⟨Mb+2,0,none⟩)::.int .i64 x.1.1::.bool x.1.2::.tuple #[.int .i64 n1,.int .i64 0]::.slice p L c::.tuple #[.int .i64 n1,.int .i64 0]::.int .i64 n1::.int .i64 0::.int .i64 0::.bool false::undef::.map (some Mb)::.agg #[.map (some Mb),.slice none 0 0]::.pointer (some ⟨Mb+1,0,none⟩)::.slice p L c::.func (.func 59) #[] #[.pointer (some ⟨Mb+3,0,none⟩)]::.int .i64 x.1.1::.bool x.1.2::undef::undef::undef::undef::undef::undef::undef::undef::undef::undef::undef::undef::undef::undef::undef::undef::undef::undef::undef::undef::undef::undef::undef::undef::undef::undef::undef::undef::undef::undef::undef::undef::undef::undef::undef::undef::undef::undef::undef::undef::undef::undef::undef::undef::undef::undef::undef::undef::[]),defers:=[]}) ?yX ?J2 ?J3 ?J4
  case yX=>
   intro l x W K hK;dsimp only [yY];gi_wp2;simpa [yY] using hK
  case J4=>
   intro D cc pre W _ _ h;exact h.elim
  case J2=>
   rintro l pre ⟨⟨xi,xt⟩,hx0,hx1,hx2⟩ W6 ⟨afk,hj⟩ hlen;obtain⟨z,rfl⟩:∃z:Nat,xi=(z:Int):=⟨xi.toNat,by simp at hx0;omega⟩;have hz:z<ns.length:=by simp at hx1;omega
   have hzL:(z:Int)<(L:Int):=dG;have z0:(0:Int)≤(z:Int):=aa;have JI:L≤5000:=by have:=HL.out;have:=Hs.out.1;omega
   have hpl:pre.length+1≤L:=dG;have Hj:=hid hj;obtain⟨⟨nI,lM⟩,DL,os,n,D,hn,G0,A8,hrel⟩:=hj;have hMl:Mb<W6.heap.size:=A8.map.lt;have A9:(mS pre).length=pre.length:=by simp [mS]
   rw [A9] at hn G0;have c1:=nI.cell;have c6:=lM.cell;obtain⟨b,o,rfl,hbl,hnz,bg,k0,k1,k2,k3⟩:=aY (aj.later Ha.out DL) hz;have pZ:dA ns z=xt:=by have:=hx2;simp at this;exact this.symm
   have HE:Hid (∀(y:vN ns) (W':World),y.1=((z:Int),xt)→Jx w (some ⟨b,o,none⟩) L c ns Mb (Mb+1) (Mb+2) (mS pre++[((z:Int),xt)]) W'→Ke Mb Mb W6 W'→
     KeepsFrom W5.heap.size W6 W'∧Kc Wm.heap.size W6 W'∧(pre++[y]).length≤L∧Jx w (some ⟨b,o,none⟩) L c ns Mb (Mb+1) (Mb+2) (mS (pre++[y])) W'):=hid fun y W' hy hj hk=>
    ⟨hk.from aa,by rw [Dj];exact hk.kc,by rw [List.length_append];exact hpl,by rw [rH,hy];exact hj⟩
   have Dk:=nI.lt;have hTl:=lM.lt;have hnb:n≤100000:=aa;have hob:os.length≤100000:=aa;have Dl:=PF.out z _ hnz;have HP:Hid (∀(W:World) (kind:Int) (text:ByteArray) (kp:Option Addr) (aC:Nat) (place:Int) (kids:List Int) (q:Nat),kids.length=q→Below W6.heap.size W6 W→(∀k∈kids,i64 k)→kids.length≤20000→bR W kp kids→Gq ns (z:Int)=true→
     (fH ns z (aP ns z).1 D→aP ns (z+1)=((aP ns z).1++[((aP ns z).2.length:Int)],(aP ns z).2++[(kind,text,eK D kids,place)]))→
     Calls Tryz.prog 29 #[.pointer (some ⟨Mb+1,0,none⟩),.int .i64 (z:Int),.agg #[.int .i64 kind,.string text,.slice kp q aC,.int .i64 place]] W (adS w (some ⟨b,o,none⟩) L c ns Mb (mS pre) ((z:Int),xt) W6)):=hid fun W kind text kp aC place kids q hq hW hki Bf hka F4 hst=>by
    subst hq;refine(J6 Mb (Mb+1) Mb os n D hob hnb kind text kp aC place kids hki Bf W hka (z:Int) ⟨by omega,by omega⟩ (dF A8 (tR hW) (fun r e=>nomatch e))).mono fun e w' ⟨h1,⟨Xq,Xr,h3⟩,h4,h5⟩=>⟨h1,hid ?_⟩
    have xb:Ke Mb Mb W6 w':=abB (tS hW aa) ⟨h4,h5⟩;exact⟨aaj nI lM DL rfl hnz F4 hst (by rw [A9];exact hn) (by rw [A9];exact G0) hrel aa h3 xb,xb⟩
   cases xt with
   |true=>
    have H9:=hid (Cb (l:=l) (n:=0) (HP.out W6 12 ⟨#[]⟩ none 0 0 [] 0 rfl (Below.refl _ _) (fun k h=>nomatch h) ai (.inl rfl) (by rw [Au hnz,pZ];rfl) (fun _=>xV hnz pZ)));clear HP hrel A8 bg Dl nI lM Hj;gi_wp2_with (refine⟨trivial, ?_⟩;gi_at_call 29;((with_reducible refine H9.out.mono ?_);clear H9;rintro e w' ⟨rfl,Hw⟩));exact HE.out _ _ rfl Hw.out.1 Hw.out.2
   |false=>
    by_cases nO:ns[z].kind=36
    ·obtain⟨bk,ok,iW,dz,ck⟩:=cF bg (j:=0) (Dl.2.2.2 nO);have h0:=Dl.2.2.2 nO;have Xu:ns[z].kids.getD 0 0∈ns[z].kids:=FR;have hu:i64 (ns[z].kids.getD 0 0):=bg.2.2.2.2.1 _ Xu;obtain⟨PZ,huz⟩:=Dl.1 _ Xu;have q0:(0:Int)<(ns[z].kids.length:Int):=aa;have q2:¬(ns[z].kids.length:Int)≤0:=aa;have q3:ns[z].kids.length≠0:=aa;have hM:=A8.map;have FT:=A8.box;obtain⟨v,FT,_⟩:=FT;have ck0:W6.cell? ⟨bk,ok,none⟩=some (.int .i64 (ns[z].kids.getD 0 0)):=ck;have HX:Hid (∀(cv:Int) (W7:World),lK D (ns[z].kids.getD 0 0)=cv→W6.drew.grownBy W7 (some Mb)→jt W7 Mb (n+1) (D.put (.int .i64 (z:Int)) (.lit (.int .i64 cv)))→
       Jx w (some ⟨b,o,none⟩) L c ns Mb (Mb+1) (Mb+2) (mS pre++[((z:Int),false)]) W7∧Ke Mb Mb W6 W7):=hid fun cv W7 e1 e2 e3=>by
      have hx:=aak (W:=W6.drew) (x:=((z:Int),false)) nI lM DL.drew rfl hnz nO pZ rfl PZ huz (by rw [A9];exact hn) (by rw [A9];exact G0) (dF A8 (FU _) (fun r e=>nomatch e)) hrel e1 e2 e3 aa;exact⟨hx.1,FV hx.2⟩
     rw [nO] at k0;rw [iW] at k2;clear HP;generalize ns[z].kids.getD 0 0=u at*;generalize ns[z].kids.length=q at*;have J5:=keyOf_int_mk (P:=Tryz.prog) (k:=3) Tryz.underlying3 (show(Lit.int .i64 u).wf=true from WalkArith.wf_i64 hu);have Us:=keyOf_int_mk (P:=Tryz.prog) (k:=3) Tryz.underlying3 (show(Lit.int .i64 (z:Int)).wf=true from WalkArith.wf_i64 aa);obtain⟨cv,hrun,hat,hcw⟩:=hM.drew.lookup_int G1 Tryz.underlying51 Tryz.underlying3 (rP _) J5;have Hv:=hid (yZ hat);have cP0:W6.cell? ⟨Mb+1,0,none⟩=some (.map (some Mb)):=Ba;have hPl:=(Array.getElem?_eq_some_iff.1 FT).1;have HM:=hid hM;clear hM FT iW hnz bg k1 k3 A8 hrel nI lM nO Dl Xu hat Hj pZ;gi_wp2
     (refine kD 17 ak ak ak ?_; simp only [List.take_succ_cons, List.take_zero, List.drop_succ_cons, List.drop_zero]; (repeat still_step); try refine wpStill_nil ?_)
     exact Ut
    ·have HT:Hid (∀W,CallsIn (Fence.wide.inRound l) 0 Tryz.prog 30 #[.agg #[.int .i64 ns[z].kind,.string ns[z].text,.slice ns[z].kp ns[z].kids.length ns[z].aC,.int .i64 ns[z].place]] W fun e w'=>e=.returned (.bool (aq ns[z].kind))∧Below W.heap.size W w'):=hid fun W=>Cb (jX _ _ _ _ _ _ _)
     have H13:Hid (aq ns[z].kind=false→∀W,Below W6.heap.size W6 W→Calls Tryz.prog 29 #[.pointer (some ⟨Mb+1,0,none⟩),.int .i64 (z:Int),.agg #[.int .i64 ns[z].kind,.string ns[z].text,.slice ns[z].kp ns[z].kids.length ns[z].aC,.int .i64 ns[z].place]] W (adS w (some ⟨b,o,none⟩) L c ns Mb (mS pre) ((z:Int),false) W6)):=
      hid fun ht W hW=>by
       obtain⟨_,_,_,_,_,hf,_⟩:=aY (aj.later Ha.out (DL.trans (hW.mono DL.size))) hz;exact HP.out W _ _ _ _ _ _ _ rfl hW hf.2.2.2.2.1 (Hs.out.2 _ (List.getElem_mem hz)).1 hf.2.2.2.2.2 (by rw [Au hnz,ht];simp) (fun hr=>by rw [xX hnz ht,yx hr _ Dl.1])
     have Bb:(ns[z].kind==36)=false:=by simp [nO]
     have hkt:Hid (aq ns[z].kind=true→Jx w (some ⟨b,o,none⟩) L c ns Mb (Mb+1) (Mb+2) (mS pre++[((z:Int),false)]) W6):=hid fun ht=>TX Hj.out rfl hnz pZ nO ht
     clear HP hnz bg A8 hrel nI lM nO Dl Hj pZ;generalize ns[z].kind=kd at*;generalize ns[z].text=tx at*;generalize ns[z].kp=kp at*;generalize ns[z].kids.length=q at*;generalize ns[z].aC=kc at*;generalize ns[z].place=pl at*;cases lA:aq kd with
     |true=>
      rw [lA] at HT;have ahb:=hid (hkt.out lA);clear hkt H13 lA;gi_wp2_with (refine⟨trivial, ?_⟩;gi_at_call 30;((with_reducible refine(HT.out _).mono ?_);clear HT;rintro e w' ⟨rfl,hb⟩;obtain⟨g3,rfl⟩:=aA hb;clear hb));exact HE.out _ _ rfl (OL ahb.out (tR (below_grow _ _))) (tS (below_grow _ _) aa)
     |false=>
      rw [lA] at HT;have ahc:=hid (H13.out lA);clear H13 hkt lA;gi_wp2_with (refine⟨trivial, ?_⟩;gi_at_call 30;((with_reducible refine(HT.out _).mono ?_);clear HT;rintro e w' ⟨rfl,hb⟩;obtain⟨g3,rfl⟩:=aA hb;clear hb))
      (refine kD 6 ak ak ak ?_; simp only [List.take_succ_cons, List.take_zero, List.drop_succ_cons, List.drop_zero]; (repeat still_step); try refine wpStill_nil ?_)
      go_wp2_with (go_at_call 29;((with_reducible refine(ahc.out _ ?_).mono ?_);rotate_left;rintro e w' ⟨rfl,Hw⟩))
      ·exact HE.out _ _ rfl Hw.out.1 Hw.out.2
      ·exact Below.drew (below_grow _ _)
  case J3=>
   have SI:=trivial;exact abC
 ·have Oy:=trivial;exact Uu
end Go.Proofs.YtbgjanmheagilaaGreatDoor