/- A part of the proof. Conditions: none. -/
import Derived.Test.YtbgjanmheagilaaGreatDoorZz
import Derived.Test.YtbgjanmheagilaaGreatDoorEaX
import Derived.Test.YtbgjanmheagilaaGreatDoorLpX
import Derived.Test.YtbgjanmheagilaaGreatDoorFm
import Derived.Test.YtbgjanmheagilaaGreatDoorRkX
import Derived.Test.YtbgjanmheagilaaGreatDoorApX
import Derived.Test.YtbgjanmheagilaaGreatDoorDpX
import Derived.Test.YtbgjanmheagilaaGreatDoorKfX
set_option linter.unusedVariables false
set_option linter.unusedSimpArgs false
set_option maxRecDepth 100000
set_option maxHeartbeats 8000000
namespace Go.Proofs.YtbgjanmheagilaaGreatDoor
open Go Go.RowKit Go.Nodes
theorem Fv (a b:Nat) (l:List UInt8):mJ 1 l a=mJ 1 l b:=rfl
theorem Fw:mJ 12 [] 0=true:=rfl
def aZ (ns:List Nd):List Int:=ns.flatMap Nd.kids
structure Val (ns:List Nd):Prop where
 node:iZ ns ns.length
 nodup:(aZ ns).Nodup
 root:∀n,n<ns.length→((ag ns (n:Int)=1↔n+1=ns.length)∧((n:Int)∈aZ ns↔n+1≠ns.length))
 ne:ns≠[]
 deep:eD ns≤200
def gO (L:Nat) (u:List Bool) (ks:List Int):Prop:=u.length=L∧∀n,n<L→(u.getD n false=true↔(n:Int)∈ks)
theorem vW (L:Nat):gO L (List.replicate L false) []:=⟨List.length_replicate,fun n hn=>by simp [List.getD,hn]⟩
theorem vX {L:Nat} {u:List Bool} {ks:List Int} {k:Int} (h:gO L u ks) (h0:0≤k) (h1:k<L):gO L (u.set k.toNat true) (ks++[k]):=by
 refine⟨by simp [h.1],fun n hn=>?_⟩;by_cases e:n=k.toNat
 ·subst e;have:(k.toNat:Int)=k:=aa;simp [List.getD,List.getElem?_set,h.1,hn,this]
 ·have h2:=h.2 n hn;have:¬(n:Int)=k:=aa;have h3:(u.set k.toNat true).getD n false=u.getD n false:=by
   simp only [List.getD_eq_getElem?_getD];rw [List.getElem?_set_ne aa]
  rw [h3,h2];simp [this]
theorem C0 {L n:Nat} (hn:n≤L):∀(l:List Int) (u v:List Bool) (ks:List Int),gO L u ks→ks.Nodup→bZ n l u=some v→gO L v (ks++l)∧(ks++l).Nodup
 |[],u,v,ks,h,hd,he=>by
  simp only [bZ,Option.some.injEq] at he;subst he;simpa using⟨h,hd⟩
 |k::l,u,v,ks,h,hd,he=>by
  unfold bZ at he;split at he
  ·rename_i hc;have h1:=vX h hc.1 aa;have hk:k ∉ ks:=fun hm=>by
    have:=(h.2 k.toNat aa).2 (by rw [show(k.toNat:Int)=k by omega];exact hm);rw [hc.2.2] at this;cases this
   have h2:(ks++[k]).Nodup:=by
    rw [List.nodup_append];exact⟨hd,by simp,fun a ha b hb=>by simp at hb;subst hb;intro e;subst e;exact hk ha⟩
   have:=C0 hn l _ v _ h1 h2 he;simpa using this
  ·cases he
theorem vY {L n:Nat} (hn:n≤L):∀(l:List Int) (u:List Bool) (ks:List Int),gO L u ks→(ks++l).Nodup→(∀k∈l,0≤k∧k<n)→∃v,bZ n l u=some v∧gO L v (ks++l)
 |[],u,ks,h,hd,hk=>⟨u,rfl,by simpa using h⟩
 |k::l,u,ks,h,hd,hk=>by
  obtain⟨h0,h1⟩:=hk k ai;have hu:u.getD k.toNat false=false:=by
   cases hb:u.getD k.toNat false with
   |false=>rfl
   |true=>
    have:=(h.2 k.toNat aa).1 hb;rw [show(k.toNat:Int)=k by omega] at this;rw [List.nodup_append] at hd;exact absurd rfl (hd.2.2 k this k ai)
  obtain⟨v,hv,hw⟩:=vY hn l (u.set k.toNat true) (ks++[k]) (vX h h0 aa) (by simpa using hd) (fun q hq=>hk q (by simp [hq]));refine⟨v, ?_,by simpa using hw⟩;unfold bZ;rw [if_pos ⟨h0,h1,hu⟩];exact hv
theorem GP (ns:List Nd) (i:Nat) (x:Nd):(okB ns x=true∧∀k∈x.kids,0≤k∧k<i)↔B2 ns i x:=by
 unfold okB;simp only [Bool.and_eq_true,decide_eq_true_eq];constructor
 ·rintro⟨⟨⟨⟨a,⟨b,c⟩,d⟩,e⟩,f⟩,g⟩;exact⟨b,c,a,g,d,e,f⟩
 ·rintro⟨a,b,c,d,e,f,g⟩;exact⟨⟨⟨⟨c,⟨a,b⟩,e⟩,f⟩,g⟩,d⟩
theorem kR (ns:List Nd) {i:Nat} {x:Nd} (hx:ns[i]?=some x):aZ (ns.take (i+1))=aZ (ns.take i)++x.kids:=by
 unfold aZ;rw [List.take_add_one,hx];simp
theorem GQ (ns:List Nd):∀(l:List Nd) (n:Nat) (u v:List Bool),ns.drop n=l→n≤ns.length→gO ns.length u (aZ (ns.take n))→(aZ (ns.take n)).Nodup→(∀(i:Nat) (x:Nd),i<n→ns[i]?=some x→B2 ns i x)→cz ns l n u=(none,v)→
  iZ ns ns.length∧(aZ ns).Nodup∧gO ns.length v (aZ ns)
 |[],n,u,v,hd,hn,h1,h2,h3,he=>by
  have:ns.length≤n:=CF;rw [List.take_of_length_le this] at h1 h2;simp only [cz,Prod.mk.injEq,true_and] at he;subst he;exact⟨fun i x hi hx=>h3 i x aa hx,h2,h1⟩
 |y::l,n,u,v,hd,hn,h1,h2,h3,he=>by
  have hlt:n<ns.length:=CF;have hy:ns[n]?=some y:=by
   exact NK
  unfold cz at he;split at he
  ·cases he
  ·rename_i u2 AU;split at he
   ·rename_i ve;obtain⟨a,b⟩:=C0 (L:=ns.length) (n:=n) hn y.kids u u2 _ h1 h2 AU;rw [←kR ns hy] at a b;refine GQ ns l (n+1) u2 v GJ hlt a b (fun i x hi hx=>?_) he;by_cases e:i=n
    ·subst e;rw [hy] at hx;cases hx;exact(GP ns i y).1 ⟨ve,fF i _ _ _ AU⟩
    ·exact h3 i x aa hx
   ·cases he
theorem yG (ns:List Nd) (hv:iZ ns ns.length) (aaw:(aZ ns).Nodup):∀(l:List Nd) (n:Nat) (u:List Bool),ns.drop n=l→n≤ns.length→gO ns.length u (aZ (ns.take n))→∃v,cz ns l n u=(none,v)∧gO ns.length v (aZ ns)
 |[],n,u,hd,hn,h1=>by
  have:ns.length≤n:=CF;rw [List.take_of_length_le this] at h1;exact⟨u,rfl,h1⟩
 |y::l,n,u,hd,hn,h1=>by
  have hlt:n<ns.length:=CF;have hy:ns[n]?=some y:=by
   exact NK
  have PS:=(GP ns n y).2 (hv n y hlt hy);have hdn:(aZ (ns.take n)++y.kids).Nodup:=by
   rw [←kR ns hy];have:(aZ (ns.take (n+1))++aZ (ns.drop (n+1)))=aZ ns:=by
    unfold aZ;rw [←List.flatMap_append,List.take_append_drop]
   rw [←this] at aaw;exact(List.nodup_append.1 aaw).1
  obtain⟨v,e1,e2⟩:=vY (L:=ns.length) hn y.kids u _ h1 hdn PS.2;rw [←kR ns hy] at e2;obtain⟨z,e3,e4⟩:=yG ns hv aaw l (n+1) v GJ hlt e2;refine⟨z, ?_,e4⟩;unfold cz;simp only [e1,PS.1,if_true];exact e3
theorem vZ {ns:List Nd} {u:List Bool} (h:gO ns.length u (aZ ns)):jA ns u=true↔∀n,n<ns.length→((ag ns (n:Int)=1↔n+1=ns.length)∧((n:Int)∈aZ ns↔n+1≠ns.length)):=by
 unfold jA;rw [List.all_eq_true];constructor
 ·intro k n hn;have:=k n (List.mem_range.2 hn);simp only [Bool.and_eq_true,decide_eq_true_eq] at this;refine⟨this.1, ?_⟩;rw [←h.2 n hn,this.2];simp
 ·intro k n hn;have hn:=List.mem_range.1 hn;obtain⟨a,b⟩:=k n hn;simp only [Bool.and_eq_true,decide_eq_true_eq];refine⟨a, ?_⟩;rw [←h.2 n hn] at b;by_cases e:n+1≠ns.length
  ·rw [b.2 e];simp [e]
  ·cases hb:u.getD n false with
   |true=>exact absurd (b.1 hb) e
   |false=>simp [e]
theorem kP (ns:List Nd):(aS ns).2=0↔Val ns:=by
 constructor
 ·intro h;unfold aS at h;split at h
  ·simp at h
  ·rename_i v hs;obtain⟨a,b,c⟩:=GQ ns ns 0 _ v rfl (Nat.zero_le _) (by simpa [aZ] using vW ns.length) (by simp [aZ]) (fun i x hi=>by omega) hs;split at h
   ·simp at h
   ·split at h
    ·rename_i hr;split at h
     ·simp at h
     ·exact⟨a,b,(vZ c).1 hr,fun e=>by subst e;simp at*,by omega⟩
    ·simp at h
 ·intro h;obtain⟨v,e1,e2⟩:=yG ns h.node h.nodup ns 0 (List.replicate ns.length false) rfl (Nat.zero_le _) (by simpa [aZ] using vW ns.length);unfold aS;rw [e1];have h0:¬ns.length=0:=fun e=>h.ne (List.length_eq_zero_iff.1 e)
  have hd:=h.deep;simp only [if_neg h0,(vZ e2).2 h.root,if_true,if_neg (show ¬200<eD ns by omega)]
end Go.Proofs.YtbgjanmheagilaaGreatDoor
/- A part of the proof. Conditions: none. -/
set_option maxRecDepth 100000
set_option maxHeartbeats 8000000
namespace Go.Proofs.YtbgjanmheagilaaGreatDoor
open Go Go.RowKit Go.Nodes
def rep (ns:List Nd) (k:Int):Int:=if ag ns k=36 then lN ns k else k
def sS (ns:List Nd) (l:List Nd):List Int:=l.flatMap fun x=>if aq x.kind then [] else x.kids.map (rep ns)
def dA (ns:List Nd) (n:Nat):Bool:=aq (ag ns (n:Int)) && decide ((n:Int)∈sS ns ns)
def laidB (d:Bool) (ns:List Nd) (n:Nat):Bool:=(dA ns n|| !aq (ag ns (n:Int))) && !(d && decide (ag ns (n:Int)=2))
def gA (d:Bool) (ns:List Nd):Nat→Nat
 |0=>0
 |n+1=>gA d ns n+if laidB d ns n then 1 else 0
def jG (d:Bool) (ns:List Nd) (k:Int):Int:=(gA d ns (rep ns k).toNat:Int)
def bQ (d:Bool) (ns:List Nd) (k:Int):Bool:= !(d && decide (ag ns k=2))
def bX (ns:List Nd):Prop:=∀(i:Nat) (x:Nd),ns[i]?=some x→aq x.kind=false
structure Cut (d:Bool) (ns ms:List Nd):Prop where
 len:ms.length=gA d ns ns.length
 top:∀(n:Nat) (x:Nd),ns[n]?=some x→laidB d ns n=true→dA ns n=true→∃y,ms[gA d ns n]?=some y∧y.kind=12∧y.text.data.toList=[]∧y.kids=[]∧y.place=0
 aT:∀(n:Nat) (x:Nd),ns[n]?=some x→laidB d ns n=true→dA ns n=false→∃y,ms[gA d ns n]?=some y∧y.kind=x.kind∧y.text=x.text∧y.place=x.place∧y.kids=(x.kids.filter (bQ d ns)).map (jG d ns)
theorem iH (d:Bool) (ns:List Nd) (n:Nat):gA d ns (n+1)=gA d ns n+if laidB d ns n then 1 else 0:=rfl
theorem TZ {d:Bool} {ns:List Nd} {a b:Nat} (h:a≤b):gA d ns a≤gA d ns b:=by
 induction h with
 |refl=>exact Nat.le_refl _
 |step _ ih=>rw [iH];omega
theorem rY {d:Bool} {ns:List Nd} {a b:Nat} (h:a<b) (hl:laidB d ns a=true):gA d ns a<gA d ns b:=by
 have:=TZ (d:=d) (ns:=ns) (show a+1≤b from h);rw [iH,hl] at this;simp at this;omega
theorem DM {d:Bool} {ns:List Nd} {a b:Nat} (ha:laidB d ns a=true) (hb:laidB d ns b=true) (h:gA d ns a=gA d ns b):a=b:=by
 rcases Nat.lt_trichotomy a b with hl|hl|hl
 ·have:=rY hl ha;omega
 ·exact hl
 ·have:=rY hl hb;omega
theorem FW {d:Bool} {ns:List Nd}:∀(L m:Nat),m<gA d ns L→∃n,n<L∧laidB d ns n=true∧gA d ns n=m
 |0,m,h=>by simp [gA] at h
 |L+1,m,h=>by
  rw [iH] at h;by_cases hl:laidB d ns L=true
  ·rw [if_pos hl] at h;by_cases e:m=gA d ns L
   ·exact⟨L,by omega,hl,e.symm⟩
   ·exact NW
  ·rw [if_neg hl] at h;exact NW
theorem ah {ns:List Nd} {n:Nat} {x:Nd} (h:ns[n]?=some x):ag ns (n:Int)=x.kind:=by
 unfold ag;rw [Int.toNat_natCast,h]
theorem ij {ns:List Nd} {n:Nat} (h:n<ns.length):∃x,ns[n]?=some x:=⟨_,List.getElem?_eq_getElem h⟩
theorem aG {ns:List Nd} {n:Nat} {x:Nd} (h:ns[n]?=some x):n<ns.length:=(List.getElem?_eq_some_iff.1 h).1
theorem lO {ns:List Nd} {k:Int}:k∈aZ ns↔∃(i:Nat) (x:Nd),ns[i]?=some x∧k∈x.kids:=by
 unfold aZ;rw [List.mem_flatMap];constructor
 ·rintro⟨x,hx,hk⟩;obtain⟨i,hi,rfl⟩:=List.getElem_of_mem hx;exact⟨i,_,List.getElem?_eq_getElem hi,hk⟩
 ·rintro⟨i,x,hx,hk⟩;exact⟨x,List.mem_of_getElem? hx,hk⟩
theorem nodup_iff {ns:List Nd}:(aZ ns).Nodup↔(∀(i:Nat) (x:Nd),ns[i]?=some x→x.kids.Nodup)∧∀(i j:Nat) (x y:Nd) (k:Int),ns[i]?=some x→ns[j]?=some y→k∈x.kids→k∈y.kids→i=j:=by
 unfold aZ;rw [List.nodup_iff_pairwise_ne,List.pairwise_flatMap];constructor
 ·rintro⟨h1,h2⟩;refine⟨fun i x hx=>List.nodup_iff_pairwise_ne.2 (h1 x (List.mem_of_getElem? hx)),fun i j x y k hx hy Zy hky=>?_⟩;rw [List.pairwise_iff_getElem] at h2;obtain⟨hi,rfl⟩:=List.getElem?_eq_some_iff.1 hx;obtain⟨hj,rfl⟩:=List.getElem?_eq_some_iff.1 hy;rcases Nat.lt_trichotomy i j with hl|hl|hl
  ·exact absurd rfl (h2 i j hi hj hl k Zy k hky)
  ·exact hl
  ·exact absurd rfl (h2 j i hj hi hl k hky k Zy)
 ·rintro⟨h1,h2⟩;refine⟨fun x hx=>?_, ?_⟩
  ·obtain⟨i,hi,rfl⟩:=List.getElem_of_mem hx;exact List.nodup_iff_pairwise_ne.1 (h1 i _ (List.getElem?_eq_getElem hi))
  ·rw [List.pairwise_iff_getElem];intro i j hi hj hl a ha b hb e;subst e;have:=h2 i j _ _ a (List.getElem?_eq_getElem hi) (List.getElem?_eq_getElem hj) ha hb;omega
section
variable {ns:List Nd}
theorem Val.kid (h:Val ns) {i:Nat} {x:Nd} (hx:ns[i]?=some x) {k:Int} (hk:k∈x.kids):∃(z:Nat) (y:Nd),k=(z:Int)∧z<i∧ns[z]?=some y:=by
 have h1:=(h.node i x (aG hx) hx).kids k hk;obtain⟨y,hy⟩:=ij (ns:=ns) (n:=k.toNat) (by have:=aG hx;omega);exact⟨k.toNat,y,by omega,by omega,hy⟩
theorem Val.one (h:Val ns) {i j:Nat} {x y:Nd} {k:Int} (hx:ns[i]?=some x) (hy:ns[j]?=some y) (h1:k∈x.kids) (h2:k∈y.kids):i=j:=(nodup_iff.1 h.nodup).2 i j x y k hx hy h1 h2
end
def CQ (k:Nat):Nat:=if 31≤k∧k≤36 then 12 else k
theorem vT (sp:Nat):∀(f:List UInt8) (ks:List Nat),(∀c∈f,c≠42→c≠46→∀k∈ks,iX k c.toNat=true→iX (CQ k) c.toNat=true)→fL sp f ks=true→fL sp f (ks.map CQ)=true
 |[],ks,_,_=>rfl
 |c::f,ks,hc,h=>by
  unfold fL at h ⊢;split
  ·rename_i h1;rw [if_pos h1] at h;exact vT sp f ks (fun c hc'=>hc c (by simp [hc'])) h
  ·rename_i h1;rw [if_neg h1] at h;simp only [Bool.and_eq_true] at h ⊢;refine⟨?_, ?_⟩
   ·rw [←List.map_take,List.all_map,List.all_eq_true];intro k hk;have:=List.all_eq_true.1 h.1 k hk;exact hc c ai (fun e=>h1 (.inl e)) (fun e=>h1 (.inr e)) k (List.mem_of_mem_take hk) this
   ·rw [←List.map_drop];exact vT sp f _ (fun c hc' n1 n2 k hk=>hc c (by simp [hc']) n1 n2 k (List.mem_of_mem_drop hk)) h.2
theorem vU (sp:Nat):∀(f:List UInt8) (ks:List Nat),ks.length≤eN sp f→fL sp f ks=true→∀k∈ks,∃c∈f,c≠42∧c≠46∧iX k c.toNat=true
 |[],ks,hl,_,k,hk=>by
  simp [eN] at hl;subst hl;cases hk
 |c::f,ks,hl,h,k,hk=>by
  unfold fL at h;unfold eN at hl;by_cases h1:c=42∨c=46
  ·rw [if_pos h1] at h hl;obtain⟨c',m,r⟩:=vU sp f ks hl h k hk;exact⟨c',by simp [m],r⟩
  ·rw [if_neg h1] at h hl;simp only [Bool.and_eq_true] at h;rw [←List.take_append_drop (if f.head?=some 42 then sp else 1) ks] at hk;rcases List.mem_append.1 hk with hk|hk
   ·exact⟨c,by simp,fun e=>h1 (.inl e),fun e=>h1 (.inr e),List.all_eq_true.1 h.1 k hk⟩
   ·obtain⟨c',m,r⟩:=vU sp f _ (by rw [List.length_drop];omega) h.2 k hk;exact⟨c',by simp [m],r⟩
theorem pI {K:Nat} (h1:1≤K) (nO:K≤36) {ks:List Nat} (h:bE (aI K) ks=true):∀k∈ks,∃c∈aI K,c≠42∧c≠46∧iX k c.toNat=true:=by
 have key:aI K=[46]∨ks.length≤eN (ks.length - ((aI K).length - 2*(aI K).count 42)) (aI K)∧fL (ks.length - ((aI K).length - 2*(aI K).count 42)) (aI K) ks=true:=by
  unfold bE at h;by_cases e:aI K=[46]
  ·exact .inl e
  rw [if_neg e] at h;split at h
  ·cases h
  ·rename_i h2;split at h
   ·cases h
   ·rename_i h3;refine .inr ⟨?_,h⟩;clear h;obtain rfl|rfl|rfl|rfl|rfl|rfl|rfl|rfl|rfl|rfl|rfl|rfl|rfl|rfl|rfl|rfl|rfl|rfl|rfl|rfl|rfl|rfl|rfl|rfl|rfl|rfl|rfl|rfl|rfl|rfl|rfl|rfl|rfl|rfl|rfl|rfl:K=1∨K=2∨K=3∨K=4∨K=5∨K=6∨K=7∨K=8∨K=9∨K=10∨K=11∨K=12∨K=13∨K=14∨K=15∨K=16∨K=17∨K=18∨K=19∨K=20∨K=21∨K=22∨K=23∨K=24∨K=25∨K=26∨K=27∨K=28∨K=29∨K=30∨K=31∨K=32∨K=33∨K=34∨K=35∨K=36:=aa
    all_goals (simp [aI,kI,eN] at h2 h3 e ⊢<;>omega)
 rcases key with e|⟨a,b⟩
 ·rw [e] at h;unfold bE at h;rw [if_pos rfl] at h;intro k hk;cases ks with
  |nil=>cases hk
  |cons a l=>simp at h
 ·exact vU _ _ _ a b
def Ib (k:Nat):Bool:=decide (31≤k) && decide (k≤36)
theorem O9:((List.range 37).all fun K=>decide (K<31)||(aI K).all fun c=>decide (c=42)||decide (c=46)||(List.range 37).all fun k=> !iX k c.toNat||Ib k)=true:=by decide+kernel
theorem Pa:((List.range 37).all fun K=>decide (K=1)||(aI K).all fun c=>decide (c=42)||decide (c=46)|| !iX 2 c.toNat)=true:=by decide+kernel
theorem Pc:((List.range 31).all fun K=>(aI K).all fun c=>(List.range 37).all fun k=>decide (c=42)||decide (c=46)|| !iX k c.toNat||iX (CQ k) c.toNat)=true:=by decide+kernel
theorem G2 {K:Nat} (h1:31≤K) (nO:K≤36) {ks:List Nat} (eM:∀k∈ks,k≤36) (h:bE (aI K) ks=true):∀k∈ks,31≤k:=fun k hk=>by
 obtain⟨c,a,b1,b2,e⟩:=pI aa nO h k hk;have t:=List.all_eq_true.1 O9 K (List.mem_range.2 aa);simp only [Bool.or_eq_true,decide_eq_true_eq] at t;have t:=List.all_eq_true.1 (t.resolve_left aa) c a;simp only [Bool.or_eq_true,decide_eq_true_eq] at t;have t:=List.all_eq_true.1 (t.resolve_left (by simp [b1,b2])) k (List.mem_range.2 (by have:=eM k hk;omega));rw [e] at t;simp [Ib] at t;exact t.1
theorem J8 {K:Nat} (h1:1<K) (nO:K≤36) {ks:List Nat} (h:bE (aI K) ks=true):2 ∉ ks:=fun hk=>by
 obtain⟨c,a,b1,b2,e⟩:=pI aa nO h 2 hk;have t:=List.all_eq_true.1 Pa K (List.mem_range.2 aa);exact KR
theorem OP {K:Nat} (h30:K≤30) {ks:List Nat} (eM:∀k∈ks,k≤36) (h:bE (aI K) ks=true):bE (aI K) (ks.map CQ)=true:=by
 unfold bE at h ⊢;by_cases e:aI K=[46]
 ·rw [if_pos e] at h ⊢;cases ks with
  |nil=>rfl
  |cons a l=>simp at h
 rw [if_neg e] at h ⊢;rw [List.length_map];split at h
 ·cases h
 ·rename_i h2;rw [if_neg h2];split at h
  ·cases h
  ·rename_i h3;rw [if_neg h3];refine vT _ _ _ (fun c hc n1 n2 k hk hi=>?_) h;have t:=List.all_eq_true.1 Pc K (List.mem_range.2 aa);have t:=List.all_eq_true.1 (List.all_eq_true.1 t c hc) k (List.mem_range.2 (by have:=eM k hk;omega));simpa [n1,n2,hi] using t
theorem xK {ks:List Nat} (h:bE [104,42,98] ks=true):ks.filter (fun k=>k !=2)=[3]∧ks.getLast?=some 3:=by
 have hd:=rI h;unfold bE at h;rw [if_neg ay] at h;split at h
 ·cases h
 ·rename_i h2;split at h
  ·cases h
  ·have hc:([104,42,98]:List UInt8).count 42=1:=by decide
   rw [hc] at h h2;simp only [List.length_cons,List.length_nil] at h h2;have hne:ks≠[]:=fun e=>by subst e;simp at h2
   rw [←List.dropLast_concat_getLast hne] at h ⊢;generalize hl:ks.getLast hne=b at*;generalize lH:ks.dropLast=a at*;have hb:b=3:=by
    simp only [fL,List.length_append,List.length_cons,List.length_nil,List.head?_cons,Bool.and_eq_true] at h;simp at h;have:=h.2;simpa [iX] using this
   subst hb;refine⟨?_,by simp⟩;rw [List.filter_append,List.filter_eq_nil_iff.2 (fun k hk=>by simp [hd k hk])];rfl
end Go.Proofs.YtbgjanmheagilaaGreatDoor
/- A part of the proof. Conditions: none. -/
set_option maxRecDepth 100000
set_option maxHeartbeats 8000000
namespace Go.Proofs.YtbgjanmheagilaaGreatDoor
open Go Go.RowKit Go.Nodes
section
variable {ns ms:List Nd} {d:Bool}
theorem Val.kind (h:Val ns) {i:Nat} {x:Nd} (hx:ns[i]?=some x):1≤x.kind∧x.kind≤36:=⟨(h.node i x (aG hx) hx).k1,(h.node i x (aG hx) hx).JJ⟩
theorem qF (h:Val ns) {i:Nat} {x:Nd} (hx:ns[i]?=some x):∀k∈aO ns x.kids,k≤36:=by
 intro k hk;obtain⟨a,ha,rfl⟩:=List.mem_map.1 hk;obtain⟨z,y,rfl,_,hy⟩:=h.kid hx ha;rw [ah hy];have:=h.kind hy;omega
theorem pq (k:Int):aq k=true↔31≤k∧k≤36:=by unfold aq;simp
theorem ng (k:Int):aq k=false↔¬(31≤k∧k≤36):=by rw [←pq];simp
theorem Val.typed (h:Val ns) {i:Nat} {x:Nd} (hx:ns[i]?=some x) (ht:aq x.kind=true) {k:Int} (hk:k∈x.kids):aq (ag ns k)=true:=by
 obtain⟨a,b⟩:=(pq _).1 ht;have:=G2 (K:=x.kind.toNat) aa aa (qF h hx) (h.node i x (aG hx) hx).fits (ag ns k).toNat (List.mem_map_of_mem hk);obtain⟨z,y,rfl,_,hy⟩:=h.kid hx hk;rw [ah hy] at this ⊢;have:=h.kind hy;exact(pq _).2 ⟨by omega,by omega⟩
theorem Val.chan (h:Val ns) {i:Nat} {x:Nd} (hx:ns[i]?=some x) (hn:x.kind≠1) {k:Int} (hk:k∈x.kids):ag ns k≠2:=fun e=>by
 have:=h.kind hx;refine J8 (K:=x.kind.toNat) aa aa (h.node i x (aG hx) hx).fits ?_;have h2:=List.mem_map_of_mem (f:=fun k=>(ag ns k).toNat) hk;simp only [e] at h2;exact h2
theorem Val.bound (h:Val ns) {i:Nat} {x:Nd} (hx:ns[i]?=some x) (hk:x.kind=36):∃(z:Nat) (y:Nd),x.kids.getD 0 0=(z:Int)∧(z:Int)∈x.kids∧z<i∧ns[z]?=some y:=by
 have hf:=(h.node i x (aG hx) hx).fits;rw [hk] at hf;have:=gF hf ay;rw [show(aO ns x.kids).length=x.kids.length by simp [aO]] at this;have h0:0<x.kids.length:=Nat.lt_of_lt_of_le ay this;have hm:x.kids.getD 0 0∈x.kids:=FR;obtain⟨z,y,a,b,c⟩:=h.kid hx hm;exact⟨z,y,a,by rw [←a];exact hm,b,c⟩
theorem tT {l:List Nd} {n:Int}:n∈sS ns l↔∃x∈l,aq x.kind=false∧∃k∈x.kids,rep ns k=n:=by
 unfold sS;rw [List.mem_flatMap];constructor
 ·rintro⟨x,hx,hn⟩;cases ht:aq x.kind with
  |true=>rw [ht] at hn;simp at hn
  |false=>
   rw [ht] at hn;simp only [Bool.false_eq_true,if_false,List.mem_map] at hn;exact⟨x,hx,ht,hn⟩
 ·rintro⟨x,hx,ht,hn⟩;refine⟨x,hx, ?_⟩;rw [ht];simp only [Bool.false_eq_true,if_false,List.mem_map];exact hn
theorem Val.kr (h:Val ns) {i:Nat} {x:Nd} (hx:ns[i]?=some x) (ht:aq x.kind=false) {k:Int} (hk:k∈x.kids):
  ∃(z:Nat) (y:Nd),rep ns k=(z:Int)∧z<i∧ns[z]?=some y∧(aq y.kind=true→dA ns z=true)∧y.kind≠1∧
   ((ag ns k=36∧aq y.kind=true∧∃(q:Nat) (b:Nd),k=(q:Int)∧ns[q]?=some b∧aq b.kind=true∧(z:Int)∈b.kids)∨(ag ns k≠36∧k=(z:Int))):=by
 obtain⟨q,b,rfl,hq,hb⟩:=h.kid hx hk;have G4:rep ns (q:Int)∈sS ns ns:=tT.2 ⟨x,List.mem_of_getElem? hx,ht,_,hk,rfl⟩;have no1:∀(z:Nat) (y:Nd),z<i→ns[z]?=some y→y.kind≠1:=fun z y hz hy e=>by
  have:=((h.root z (aG hy)).1).1 (by rw [ah hy];exact e);have:=aG hx;omega
 by_cases e:b.kind=36
 ·obtain⟨z,y,h1,h2,h3,h4⟩:=h.bound hb e;have hr:rep ns (q:Int)=(z:Int):=by
   unfold rep lN;rw [ah hb,if_pos e,Int.toNat_natCast,hb];exact h1
  have lA:aq y.kind=true:=by
   have:=h.typed hb (by rw [e];rfl) h2
   rwa [ah h4] at this
  rw [hr] at G4;refine⟨z,y,hr,by omega,h4,fun _=>?_,no1 z y aa h4,.inl ⟨by rw [ah hb];exact e,lA,q,b,rfl,hb,by rw [e];rfl,h2⟩⟩;unfold dA;rw [ah h4,lA,decide_eq_true G4];rfl
 ·have hr:rep ns (q:Int)=(q:Int):=by
   unfold rep;rw [ah hb,if_neg e]
  rw [hr] at G4;refine⟨q,b,hr,hq,hb,fun lA=>?_,no1 q b hq hb,.inr ⟨by rw [ah hb];exact e,rfl⟩⟩;unfold dA;rw [ah hb,lA,decide_eq_true G4];rfl
theorem Val.P4 (h:Val ns) {i j:Nat} {x y:Nd} (hx:ns[i]?=some x) (hy:ns[j]?=some y) (tx:aq x.kind=false) (ty:aq y.kind=false) {k l:Int} (hk:k∈x.kids) (hl:l∈y.kids) (e:rep ns k=rep ns l):k=l:=by
 obtain⟨z,u,h1,h2,h3,h4,_,h5⟩:=h.kr hx tx hk;obtain⟨z',u',g1,g2,g3,g4,_,g5⟩:=h.kr hy ty hl;obtain rfl:z=z':=by have:=h1.symm.trans (e.trans g1);omega
 rcases h5 with⟨_,_,q,b,rfl,hb,tb,hm⟩|⟨_,rfl⟩
 ·rcases g5 with⟨_,_,q',b',rfl,hb',tb',J9⟩|⟨_,rfl⟩
  ·rw [h.one hb hb' hm J9]
  ·obtain rfl:=h.one hb hy hm hl;rw [hb] at hy;cases hy;rw [tb] at ty;cases ty
 ·rcases g5 with⟨_,_,q',b',rfl,hb',tb',J9⟩|⟨_,e2⟩
  ·obtain rfl:=h.one hb' hx J9 hk;rw [hb'] at hx;cases hx;rw [tb'] at tx;cases tx
  ·exact e2.symm
theorem kA {ns:List Nd} {n:Nat} {x:Nd} (hx:ns[n]?=some x) (ht:aq x.kind=false):dA ns n=false:=by unfold dA;rw [ah hx,ht];rfl
theorem cT {ns:List Nd} {n:Nat} {x:Nd} (hx:ns[n]?=some x):laidB d ns n=true↔(dA ns n=true∨aq x.kind=false)∧¬(d=true∧x.kind=2):=by
 unfold laidB;rw [ah hx];cases d<;>simp
theorem Val.iG (h:Val ns) (hd:d=true→bX ns) {i:Nat} {x:Nd} (hx:ns[i]?=some x) (ht:aq x.kind=false) {k:Int} (hk:k∈x.kids) (hc:bQ d ns k=true):
  ∃(z:Nat) (y:Nd),rep ns k=(z:Int)∧z<i∧ns[z]?=some y∧laidB d ns z=true∧jG d ns k=(gA d ns z:Int):=by
 obtain⟨z,y,h1,h2,h3,h4,_,h5⟩:=h.kr hx ht hk;refine⟨z,y,h1,h2,h3,(cT h3).2 ⟨?_, ?_⟩,by unfold jG;rw [h1,Int.toNat_natCast]⟩
 ·cases lA:aq y.kind with
  |true=>exact .inl (h4 lA)
  |false=>exact .inr rfl
 ·rintro⟨rfl,e2⟩;unfold bQ at hc;simp only [Bool.true_and,Bool.not_eq_true',decide_eq_false_iff_not] at hc;rcases h5 with⟨_,a,_⟩|⟨_,rfl⟩
  ·rw [e2] at a;cases a
  ·rw [ah h3] at hc;exact hc e2
theorem Val.last (h:Val ns):∃(l:Nat) (x:Nd),ns.length=l+1∧ns[l]?=some x∧x.kind=1∧laidB d ns l=true∧dA ns l=false:=by
 have hl:0<ns.length:=List.length_pos_iff.2 h.ne;obtain⟨x,hx⟩:=ij (ns:=ns) (n:=ns.length - 1) aa;have hk:x.kind=1:=by
  have:=((h.root (ns.length - 1) aa).1).2 aa
  rwa [ah hx] at this
 have ht:aq x.kind=false:=by rw [hk];rfl
 exact⟨ns.length - 1,x,by omega,hx,hk,(cT hx).2 ⟨.inr ht,by rw [hk];simp⟩,kA hx ht⟩
theorem Cut.src (hC:Cut d ns ms) {m:Nat} {y:Nd} (hy:ms[m]?=some y):∃(n:Nat) (x:Nd),ns[n]?=some x∧laidB d ns n=true∧gA d ns n=m∧
  ((dA ns n=true∧y.kind=12∧y.text.data.toList=[]∧y.kids=[]∧y.place=0)∨(dA ns n=false∧aq x.kind=false∧y.kind=x.kind∧y.text=x.text∧y.place=x.place∧y.kids=(x.kids.filter (bQ d ns)).map (jG d ns))):=by
 have hm:=aG hy;rw [hC.len] at hm;obtain⟨n,hn,hl,rfl⟩:=FW _ _ hm;obtain⟨x,hx⟩:=ij hn;refine⟨n,x,hx,hl,rfl, ?_⟩;cases ht:dA ns n with
 |true=>
  obtain⟨y',h1,h2⟩:=hC.top n x hx hl ht;rw [hy] at h1;cases h1;exact .inl ⟨rfl,h2⟩
 |false=>
  obtain⟨y',h1,h2⟩:=hC.aT n x hx hl ht;rw [hy] at h1;cases h1;have:=(cT hx).1 hl;rw [ht] at this;exact .inr ⟨rfl,this.1.resolve_left ai,h2⟩
theorem G5 (h:Val ns) (hd:d=true→bX ns) (hC:Cut d ns ms):(aZ ms).Nodup:=by
 have inj:∀(i j:Nat) (x y:Nd) (k l:Int),ns[i]?=some x→ns[j]?=some y→aq x.kind=false→aq y.kind=false→k∈x.kids→l∈y.kids→bQ d ns k=true→bQ d ns l=true→jG d ns k=jG d ns l→k=l:=by
  intro i j x y k l hx hy tx ty hk hl ck cl e;obtain⟨z,u,a1,a2,a3,a4,a5⟩:=h.iG hd hx tx hk ck;obtain⟨z',u',b1,b2,b3,b4,b5⟩:=h.iG hd hy ty hl cl;rw [a5,b5] at e;obtain rfl:=DM a4 b4 aa;exact h.P4 hx hy tx ty hk hl (a1.trans b1.symm)
 refine nodup_iff.2 ⟨fun m y hy=>?_,fun m m' y y' k hy hy' hk Bc=>?_⟩
 ·obtain⟨n,x,hx,hl,rfl,hc⟩:=hC.src hy;rcases hc with⟨_,_,_,e,_⟩|⟨_,tx,_,_,_,e⟩
  ·rw [e];exact List.nodup_nil
  ·rw [e,List.nodup_iff_pairwise_ne,List.pairwise_map];have hn:=((nodup_iff.1 h.nodup).1 n x hx).filter (bQ d ns);replace hn:=List.nodup_iff_pairwise_ne.1 hn;refine hn.imp_of_mem fun {a b} ha hb hne e=>hne ?_
   have ha:=List.mem_filter.1 ha;have hb:=List.mem_filter.1 hb;exact inj n n x x a b hx hx tx tx ha.1 hb.1 ha.2 hb.2 e
 ·obtain⟨n,x,hx,hl,rfl,hc⟩:=hC.src hy;obtain⟨n',x',za,hl',rfl,hc'⟩:=hC.src hy';rcases hc with⟨_,_,_,e,_⟩|⟨_,tx,_,_,_,e⟩
  ·rw [e] at hk;cases hk
  rcases hc' with⟨_,_,_,e',_⟩|⟨_,tx',_,_,_,e'⟩
  ·rw [e'] at Bc;cases Bc
  rw [e] at hk;rw [e'] at Bc;obtain⟨a,ha,rfl⟩:=List.mem_map.1 hk;obtain⟨b,hb,eb⟩:=List.mem_map.1 Bc;have ha:=List.mem_filter.1 ha;have hb:=List.mem_filter.1 hb;obtain rfl:=inj n n' x x' a b hx za tx tx' ha.1 hb.1 ha.2 hb.2 eb.symm;rw [h.one hx za ha.1 hb.1]
theorem zb (h:Val ns) (hC:Cut d ns ms) {l:Nat} (hl:ns.length=l+1):laidB d ns l=true∧ms.length=gA d ns l+1:=by
 obtain⟨l',x,e,hx,_,a,_⟩:=h.last (d:=d);obtain rfl:l'=l:=aa;refine⟨a, ?_⟩;rw [hC.len,hl,iH,a];rfl
theorem Ka (h:Val ns) (hd:d=true→bX ns) (hC:Cut d ns ms):∀m,m<ms.length→((ag ms (m:Int)=1↔m+1=ms.length)∧((m:Int)∈aZ ms↔m+1≠ms.length)):=by
 intro m hm;obtain⟨l,xl,hl,Dm,kl,ll,tl⟩:=h.last (d:=d);have hlen:=(zb h hC hl).2;obtain⟨y,hy⟩:=ij hm;obtain⟨n,x,hx,hn,rfl,hc⟩:=hC.src hy;have ze:=aG hx;have pz:=h.root n ze;rw [ah hx] at pz;have last:gA d ns n+1=ms.length↔n+1=ns.length:=by
  rw [hlen,hl];constructor
  ·intro e;have:=DM hn ll aa;omega
  ·intro e;obtain rfl:n=l:=aa;rfl
 refine⟨?_, ?_⟩
 ·rw [ah hy,last,←pz.1];rcases hc with⟨ht,e,_⟩|⟨_,_,e,_⟩
  ·rw [e];have:aq x.kind=true:=by
    unfold dA at ht;rw [ah hx] at ht;simp only [Bool.and_eq_true] at ht;exact ht.1
   have:=(pq _).1 this;constructor<;>intro e<;>omega
  ·rw [e]
 ·rw [Ne,last];constructor
  ·intro qG;obtain⟨m',y',hy',hk⟩:=lO.1 qG;obtain⟨n',x',za,hn',rfl,hc'⟩:=hC.src hy';rcases hc' with⟨_,_,_,e,_⟩|⟨_,tx',_,_,_,e⟩
   ·rw [e] at hk;cases hk
   rw [e] at hk;obtain⟨k,hk,ek⟩:=List.mem_map.1 hk;have hk:=List.mem_filter.1 hk;obtain⟨z,u,a1,a2,a3,a4,a5⟩:=h.iG hd za tx' hk.1 hk.2;rw [a5] at ek;obtain rfl:=DM a4 hn aa;have:=aG za;omega
  ·intro hne;have par:∀(q:Nat) (xq:Nd) (k:Int),ns[q]?=some xq→aq xq.kind=false→k∈xq.kids→bQ d ns k=true→rep ns k=(n:Int)→((gA d ns n:Nat):Int)∈aZ ms:=by
    intro q xq k hq tq hk ck er;have h2:xq.kind≠2:=fun e=>by
     have hf:=(h.node q xq (aG hq) hq).fits;rw [e] at hf;have:aI (2:Int).toNat=[46]:=ay;rw [this] at hf;unfold bE at hf;rw [if_pos rfl] at hf;have:aO ns xq.kids=[]:=List.isEmpty_iff.1 hf;have:xq.kids=[]:=by simpa [aO] using this
     rw [this] at hk;cases hk
    have Dn:=(cT (d:=d) hq).2 ⟨.inr tq,fun e=>h2 e.2⟩;obtain⟨yq,g1,g2,g3,g4,g5⟩:=hC.aT q xq hq Dn (kA hq tq);refine lO.2 ⟨_,_,g1, ?_⟩;rw [g5];refine List.mem_map.2 ⟨k,List.mem_filter.2 ⟨hk,ck⟩, ?_⟩;unfold jG;rw [er,Int.toNat_natCast]
   rcases((cT hx).1 hn).1 with ht|ht
   ·have FO:=ht;unfold dA at FO;simp only [Bool.and_eq_true,decide_eq_true_eq] at FO;obtain⟨xq,hxq,tq,k,hk,er⟩:=tT.1 FO.2;obtain⟨q,hq,rfl⟩:=List.getElem_of_mem hxq;refine par q _ k (List.getElem?_eq_getElem hq) tq hk ?_ er;cases d with
    |false=>simp [bQ]
    |true=>
     have:=hd rfl n x hx;rw [ah hx,this] at FO;cases FO.1
   ·obtain⟨q,xq,hq,hk⟩:=lO.1 (pz.2.2 aa);have tq:aq xq.kind=false:=by
     cases t:aq xq.kind with
     |false=>rfl
     |true=>
      have:=h.typed hq t hk;rw [ah hx,ht] at this;cases this
    refine par q xq _ hq tq hk ?_ ?_
    ·have:=((cT hx).1 hn).2;unfold bQ;rw [ah hx];simp only [Bool.not_eq_true',Bool.and_eq_false_iff,decide_eq_false_iff_not];by_cases hdd:d=true
     ·exact .inr fun e=>this ⟨hdd,e⟩
     ·exact .inl (by simpa using hdd)
    ·unfold rep;rw [ah hx,if_neg];intro e;rw [e] at ht;cases ht
end
end Go.Proofs.YtbgjanmheagilaaGreatDoor
/- A part of the proof. Conditions: none. -/
set_option maxRecDepth 100000
set_option maxHeartbeats 8000000
namespace Go.Proofs.YtbgjanmheagilaaGreatDoor
open Go Go.RowKit Go.Nodes
theorem OM:((List.range 31).all fun K=>decide (K=4)||decide (K=22)||decide (K=23)||(aI K).all fun c=>decide (c=42)||decide (c=46)||(List.range 37).all fun k=> !iX k c.toNat|| !Ib k)=true:=by decide+kernel
theorem Jf {K:Nat} (h1:1≤K) (h30:K≤30) (hne:K≠4∧K≠22∧K≠23) {ks:List Nat} (eM:∀k∈ks,k≤36) (h:bE (aI K) ks=true):∀k∈ks,k<31:=fun k hk=>by
 obtain⟨c,a,b1,b2,e⟩:=pI h1 aa h k hk;have t:=List.all_eq_true.1 OM K (List.mem_range.2 aa);simp only [Bool.or_eq_true,decide_eq_true_eq] at t;have t:=List.all_eq_true.1 (t.resolve_left aa) c a;simp only [Bool.or_eq_true,decide_eq_true_eq] at t;have nO:=eM k hk;have t:=List.all_eq_true.1 (t.resolve_left (by simp [b1,b2])) k (List.mem_range.2 aa);rw [e] at t;simp [Ib] at t;omega
section
variable {ns ms:List Nd} {d:Bool}
theorem Val.plain (h:Val ns) {i:Nat} {x:Nd} (hx:ns[i]?=some x) (ht:x.kind<31) (hne:x.kind≠4∧x.kind≠22∧x.kind≠23) {k:Int} (hk:k∈x.kids):aq (ag ns k)=false:=by
 have cX:=h.kind hx;have:=Jf (K:=x.kind.toNat) aa aa aa (qF h hx) (h.node i x (aG hx) hx).fits (ag ns k).toNat (List.mem_map_of_mem hk);rw [ng];omega
theorem Cut.plain (hC:Cut d ns ms) {n:Nat} {x:Nd} (hx:ns[n]?=some x) (ht:aq x.kind=false) (h2:¬(d=true∧x.kind=2)):∃y,ms[gA d ns n]?=some y∧y.kind=x.kind∧y.text=x.text∧y.place=x.place∧y.kids=(x.kids.filter (bQ d ns)).map (jG d ns):=
 hC.aT n x hx ((cT hx).2 ⟨.inr ht,h2⟩) (kA hx ht)
theorem Cut.kid (hC:Cut d ns ms) (h:Val ns) (hd:d=true→bX ns) {i:Nat} {x:Nd} (hx:ns[i]?=some x) (ht:aq x.kind=false) {k:Int} (hk:k∈x.kids) (hc:bQ d ns k=true):
  ∃(z:Nat) (y:Nd),jG d ns k=(gA d ns z:Int)∧z<i∧laidB d ns z=true∧ms[gA d ns z]?=some y∧
   ((aq (ag ns k)=true∧y.kind=12)∨(aq (ag ns k)=false∧k=(z:Int)∧∃u,ns[z]?=some u∧y.kind=u.kind∧y.text=u.text∧y.place=u.place∧y.kids=(u.kids.filter (bQ d ns)).map (jG d ns))):=by
 obtain⟨z,y,h1,h2,h3,h4,_,h5⟩:=h.kr hx ht hk;obtain⟨z',y',a1,a2,a3,a4,a5⟩:=h.iG hd hx ht hk hc;obtain rfl:z=z':=by have:=h1.symm.trans a1;omega
 rw [h3] at a3;cases a3;cases xz:aq y.kind with
 |true=>
  obtain⟨u,b1,b2,b3,b4⟩:=hC.top z y h3 a4 (h4 xz);refine⟨z,u,a5,h2,a4,b1,.inl ⟨?_,b2⟩⟩;rcases h5 with⟨e,_⟩|⟨_,rfl⟩
  ·rw [e];rfl
  ·rw [ah h3];exact xz
 |false=>
  obtain⟨u,b1,b2,b3,b4,b5⟩:=hC.aT z y h3 a4 (kA h3 xz);refine⟨z,u,a5,h2,a4,b1,.inr ?_⟩;rcases h5 with⟨_,e,_⟩|⟨_,rfl⟩
  ·rw [xz] at e;cases e
  ·exact⟨by rw [ah h3];exact xz,rfl,y,h3,b2,b3,b4,b5⟩
theorem vO (hC:Cut d ns ms) (h:Val ns) (hd:d=true→bX ns) {i:Nat} {x:Nd} (hx:ns[i]?=some x) (ht:aq x.kind=false) {k:Int} (hk:k∈x.kids) (hc:bQ d ns k=true):
  ag ms (jG d ns k)=if aq (ag ns k) then 12 else ag ns k:=by
 obtain⟨z,y,a1,_,_,a2,a3⟩:=hC.kid h hd hx ht hk hc;rw [a1,ah a2];rcases a3 with⟨e,b⟩|⟨e,rfl,u,b1,b2,_⟩
 ·rw [e,b];rfl
 ·rw [e,b2,ah b1];rfl
theorem CP (hC:Cut d ns ms) (h:Val ns) (hd:d=true→bX ns) {i:Nat} {x:Nd} (hx:ns[i]?=some x) (ht:aq x.kind=false) {k:Int} (hk:k∈x.kids) (hc:bQ d ns k=true) (hn:aq (ag ns k)=false):
  aQ ms (jG d ns k)=aQ ns k:=by
 obtain⟨z,y,a1,_,_,a2,a3⟩:=hC.kid h hd hx ht hk hc;rcases a3 with⟨e,b⟩|⟨e,rfl,u,b1,b2,b3,_⟩
 ·rw [hn] at e;cases e
 ·rw [a1];unfold aQ;rw [Int.toNat_natCast,Int.toNat_natCast,a2,b1];simp only [b3]
theorem Jg {k:Int} (h1:0≤k):(if aq k then(12:Int) else k).toNat=CQ k.toNat:=by
 unfold CQ;cases ht:aq k with
 |true=>have:=(pq _).1 ht;simp only [if_true];rw [if_pos aa];rfl
 |false=>have:=(ng _).1 ht;simp only [Bool.false_eq_true,if_false];rw [if_neg aa]
theorem fq (h:Val ns) {i:Nat} {x:Nd} (hx:ns[i]?=some x) (hn:x.kind≠1∨d=false):x.kids.filter (bQ d ns)=x.kids:=by
 refine List.filter_eq_self.2 fun k hk=>?_
 unfold bQ;rcases hn with hn|hn
 ·simp [h.chan hx hn hk]
 ·simp [hn]
theorem Fa (hC:Cut d ns ms) (h:Val ns) (hd:d=true→bX ns) {i:Nat} {x:Nd} (hx:ns[i]?=some x) (ht:aq x.kind=false):
  aO ms ((x.kids.filter (bQ d ns)).map (jG d ns))=(aO ns (x.kids.filter (bQ d ns))).map CQ:=by
 unfold aO;rw [List.map_map,List.map_map];refine List.map_congr_left fun k hk=>?_
 have hk:=List.mem_filter.1 hk;show(ag ms (jG d ns k)).toNat=CQ (ag ns k).toNat;rw [vO hC h hd hx ht hk.1 hk.2,Jg];obtain⟨z,y,rfl,_,hy⟩:=h.kid hx hk.1;rw [ah hy];have:=h.kind hy;omega
theorem OO (hC:Cut d ns ms) (h:Val ns) (hd:d=true→bX ns) {i:Nat} {x:Nd} (hx:ns[i]?=some x) (ht:aq x.kind=false):
  bE (aI x.kind.toNat) (aO ms ((x.kids.filter (bQ d ns)).map (jG d ns)))=true:=by
 rw [Fa hC h hd hx ht];have hf:=(h.node i x (aG hx) hx).fits;have cX:=h.kind hx;have hnt:=(ng _).1 ht;by_cases hk:x.kind≠1∨d=false
 ·rw [fq h hx hk];exact OP aa (qF h hx) hf
 ·have tD:x.kind=1:=Classical.byContradiction fun e=>hk (.inl e)
  have QD:d=true:=by cases d with
   |true=>rfl
   |false=>exact absurd (.inr rfl) hk
  subst QD;rw [tD] at hf ⊢;have adT:aI (1:Int).toNat=[104,42,98]:=ay;rw [adT] at hf ⊢;have ahd:aO ns (x.kids.filter (bQ true ns))=(aO ns x.kids).filter (fun k=>k !=2):=by
   unfold aO;rw [List.filter_map];congr 1;refine List.filter_congr fun k hk=>?_
   obtain⟨z,y,rfl,_,hy⟩:=h.kid hx hk;unfold bQ;simp only [Function.comp,Bool.true_and];rw [ah hy];have:=h.kind hy;by_cases e:y.kind=2
   ·rw [e];decide
   ·have:y.kind.toNat≠2:=by omega
    simp [e,this]
  rw [ahd,(xK hf).1];decide+kernel
theorem yz (hC:Cut d ns ms) (h:Val ns) (hd:d=true→bX ns):∀(f g n:Nat) (x:Nd),ns[n]?=some x→aq x.kind=false→¬(d=true∧x.kind=2)→gA d ns n<f→n<g→pS ms f (gA d ns n:Int)=pS ns g (n:Int)
 |0,g,n,x,hx,ht,h2,hf,_=>by omega
 |f+1,0,n,x,hx,ht,h2,hf,hg=>by omega
 |f+1,g+1,n,x,hx,ht,h2,hf,hg=>by
  obtain⟨y,g1,g2,g3,g4,g5⟩:=hC.plain hx ht h2;unfold pS;rw [ah g1,ah hx,g2];split
  ·rename_i hk;have hka:lN ns (n:Int)=x.kids.getD 0 0:=by unfold lN;rw [Int.toNat_natCast,hx]
   have hkb:lN ms (gA d ns n:Int)=y.kids.getD 0 0:=by unfold lN;rw [Int.toNat_natCast,g1]
   have h0:0<x.kids.length:=by
    have hfx:=(h.node n x (aG hx) hx).fits;have hl:(aO ns x.kids).length=x.kids.length:=by simp [aO]
    rw [←hl];rcases hk with e|e|e<;>(rw [e] at hfx;exact Nat.lt_of_lt_of_le ay (gF hfx ay))
   have hm:x.kids.getD 0 0∈x.kids:=FR;have hp:=h.plain hx aa aa hm;have hch:=h.chan hx aa hm;rw [fq h hx (.inl aa)] at g5;have Sw:y.kids.getD 0 0=jG d ns (x.kids.getD 0 0):=by
    rw [g5];simp [List.getD,List.getElem?_eq_getElem h0]
   obtain⟨z,u,e,hz,hu⟩:=h.kid hx hm;rw [hka,hkb,Sw,e];rw [e,ah hu] at hp hch;have:jG d ns (z:Int)=(gA d ns z:Int):=by
    exact NV
   rw [this];have hzl:=rY hz ((cT (d:=d) hu).2 ⟨.inr hp,fun e=>hch e.2⟩);exact yz hC h hd f g z u hu hp (fun e=>hch e.2) aa aa
  ·rfl
theorem Jh (hC:Cut d ns ms) (h:Val ns) (hd:d=true→bX ns) {n:Nat} {x:Nd} (hx:ns[n]?=some x) (ht:aq x.kind=false) (h2:¬(d=true∧x.kind=2)):fO ms (gA d ns n:Int)=fO ns (n:Int):=by
 unfold fO;rw [Int.toNat_natCast,Int.toNat_natCast];exact yz hC h hd _ _ n x hx ht h2 aa aa
end
end Go.Proofs.YtbgjanmheagilaaGreatDoor
/- A part of the proof. Conditions: none. -/
set_option maxRecDepth 100000
set_option maxHeartbeats 8000000
namespace Go.Proofs.YtbgjanmheagilaaGreatDoor
open Go Go.RowKit Go.Nodes
section
variable {ns ms:List Nd} {d:Bool}
theorem zR {k:Int} (h:ag ns k≠2):bQ d ns k=true:=by unfold bQ;simp [h]
theorem yP {x:Nd} (h0:0<x.kids.length):x.kids.getD 0 0∈x.kids:=by rw [List.getD,List.getElem?_eq_getElem h0];exact List.getElem_mem h0
theorem JH (hC:Cut d ns ms) (h:Val ns) (hd:d=true→bX ns) {n:Nat} {x y:Nd} (hx:ns[n]?=some x) (ht:aq x.kind=false) (h2:¬(d=true∧x.kind=2))
  (hy:ms[gA d ns n]?=some y) (k1:y.kind=x.kind) (k2:y.text=x.text) (k3:y.kids=(x.kids.filter (bQ d ns)).map (jG d ns)):fZ ms y=true:=by
 have hm:=(h.node n x (aG hx) hx).more;have cX:=h.kind hx;have htt:=(ng _).1 ht;unfold fZ at hm ⊢;rw [k1,k2];by_cases e3:x.kind=3
 ·rw [if_pos e3] at hm ⊢;rw [k3,fq h hx (.inl aa),←List.map_dropLast,List.all_map,List.all_eq_true];intro k hk;have Bc:=(List.dropLast_sublist _).subset hk;have hc:=h.chan hx aa Bc;have:=List.all_eq_true.1 hm k hk;simp only [decide_eq_true_eq] at this;simp only [Function.comp,decide_eq_true_eq];rw [vO hC h hd hx ht Bc (by simp [bQ,hc])];split<;>omega
 rw [if_neg e3] at hm ⊢;by_cases e6:x.kind=6∨x.kind=7
 ·rw [if_pos e6] at hm ⊢;have h0:0<x.kids.length:=by
   have hfx:=(h.node n x (aG hx) hx).fits;have hl:(aO ns x.kids).length=x.kids.length:=by simp [aO]
   rw [←hl];rcases e6 with e|e<;>(rw [e] at hfx;exact Nat.lt_of_lt_of_le ay (gF hfx ay))
  have nc:=yP h0;have hp:=h.plain hx aa aa nc;have hch:=h.chan hx aa nc;rw [fq h hx (.inl aa)] at k3;have Sw:y.kids.getD 0 0=jG d ns (x.kids.getD 0 0):=by
   rw [k3];simp [List.getD,List.getElem?_eq_getElem h0]
  obtain⟨z,u,e,hz,hu⟩:=h.kid hx nc;rw [e,ah hu] at hp hch;have e2:jG d ns (z:Int)=(gA d ns z:Int):=by
   exact NV
  rw [Sw,e,e2,Jh hC h hd hu hp (fun e=>hch e.2)];rw [e] at hm;exact hm
 rw [if_neg e6] at hm ⊢;by_cases e21:x.kind=21
 ·rw [if_pos e21] at hm ⊢;split
  ·rename_i hw;rw [if_pos hw] at hm;rw [fq h hx (.inl aa)] at k3;simp only [Bool.and_eq_true,decide_eq_true_eq] at hm ⊢;by_cases h0:0<x.kids.length
   ·have nc:=yP h0;have hp:=h.plain hx aa aa nc;have hch:=h.chan hx aa nc;have Sw:y.kids.getD 0 0=jG d ns (x.kids.getD 0 0):=by
     rw [k3];simp [List.getD,List.getElem?_eq_getElem h0]
    rw [Sw,vO hC h hd hx ht nc (zR hch),CP hC h hd hx ht nc (zR hch) hp,hp];exact hm
   ·have JM:x.kids=[]:=List.length_eq_zero_iff.1 aa;rw [JM] at hm k3;rw [k3];simp only [List.map_nil,List.getD_nil] at hm ⊢;cases hz:ns[0]? with
    |none=>
     have:ag ns 0=0:=by unfold ag;rw [show(0:Int).toNat=0 from rfl,hz]
     omega
    |some u=>
     have hk:ag ns ((0:Nat):Int)=u.kind:=ah hz;have aaJ:u.kind=15:=by rw [←hk];exact hm.1
     obtain⟨v,g1,g2,g3,_⟩:=hC.plain hz (by rw [aaJ];rfl) (by rw [aaJ];simp);have g1':ms[0]?=some v:=g1;have a1:ag ms 0=v.kind:=by unfold ag;rw [show(0:Int).toNat=0 from rfl,g1']
     have a2:aQ ms 0=aQ ns 0:=by unfold aQ;rw [show(0:Int).toNat=0 from rfl,g1',hz];simp only [g3]
     rw [a1,a2,g2];exact⟨aaJ,hm.2⟩
  ·rfl
 rw [if_neg e21] at hm ⊢;rw [if_neg (show ¬x.kind=32 by omega)] at hm ⊢;by_cases e1:x.kind=1
 ·rw [if_pos e1] at hm ⊢;have hf:=(h.node n x (aG hx) hx).fits;rw [e1,show aI (1:Int).toNat=[104,42,98] by decide] at hf;have lH:=rI hf;rw [show(aO ns x.kids).dropLast=aO ns x.kids.dropLast by simp [aO,List.map_dropLast]] at lH;have aeg:∀k∈x.kids.dropLast,ag ns k=2:=fun k hk=>by
   have h3:(ag ns k).toNat=2:=lH _ (List.mem_map_of_mem hk);omega
  cases d with
  |false=>
   rw [fq h hx (.inr rfl)] at k3;rw [k3,←List.map_dropLast,List.map_map];have:x.kids.dropLast.map ((fun k=>(aQ ms k).take 1) ∘ jG false ns)=x.kids.dropLast.map fun k=>(aQ ns k).take 1:=by
    refine List.map_congr_left fun k hk=>?_
    have Bc:=(List.dropLast_sublist _).subset hk;show(aQ ms (jG false ns k)).take 1=_;rw [CP hC h hd hx ht Bc (by simp [bQ]) (by rw [aeg k hk];rfl)]
   rw [this];exact hm
  |true=>
   have hlen:(x.kids.filter (bQ true ns)).length≤1:=by
    have hne:x.kids≠[]:=fun e=>by rw [e] at hf;simp [aO] at hf;revert hf;decide
    rw [←List.dropLast_concat_getLast hne,List.filter_append,List.filter_eq_nil_iff.2 (fun k hk=>by simp [bQ,aeg k hk])];simp;exact List.length_filter_le _ _
   have:y.kids.dropLast=[]:=by
    rw [k3];apply List.length_eq_zero_iff.1;rw [List.length_dropLast,List.length_map];omega
   rw [this];rfl
 ·rw [if_neg e1]
theorem Py (hC:Cut d ns ms) (h:Val ns) (hd:d=true→bX ns):iZ ms ms.length:=by
 intro m y _ hy;obtain⟨n,x,hx,hl,rfl,hc⟩:=hC.src hy;rcases hc with⟨_,a,b,c,e⟩|⟨_,ht,k1,k2,k4,k3⟩
 ·refine⟨by omega,by omega,by omega, ?_, ?_, ?_, ?_⟩
  ·rw [c];intro k hk;cases hk
  ·rw [c,a];show bE (aI 12) []=true;decide+kernel
  ·rw [a,b,c];exact Fw
  ·unfold fZ;rw [a];rfl
 ·have hv:=h.node n x (aG hx) hx;have h2:=((cT hx).1 hl).2;refine⟨by rw [k1];exact hv.k1,by rw [k1];exact hv.JJ,by rw [k4];exact hv.place, ?_, ?_, ?_,JH hC h hd hx ht h2 hy k1 k2 k3⟩
  ·rw [k3];intro k hk;obtain⟨q,hq,rfl⟩:=List.mem_map.1 hk;have hq:=List.mem_filter.1 hq;obtain⟨z,u,a1,a2,a3,a4,a5⟩:=h.iG hd hx ht hq.1 hq.2;rw [a5];have:=rY a2 a4;omega
  ·rw [k1,k3];exact OO hC h hd hx ht
  ·rw [k1,k2,k3,List.length_map];by_cases e:x.kind=1
   ·rw [e,show(1:Int).toNat=1 from rfl,Fv _ x.kids.length];have:=hv.text;rw [e] at this;exact this
   ·rw [fq h hx (.inl e)];exact hv.text
theorem FM (ds:List Int):∀(l:List Int) (m:Int),m≤cQ ds l m
 |[],m=>Int.le_refl _
 |k::l,m=>by
  unfold cQ;refine Int.le_trans ?_ (FM ds l _);split
  ·exact Int.le_max_left _ _
  ·exact Int.le_refl _
theorem Pz (ds:List Int):∀(l:List Int) (m:Int) (k:Int),k∈l→0≤k→k<ds.length→ds.getD k.toNat 0≤cQ ds l m
 |q::l,m,k,hk,h0,h1=>by
  unfold cQ;rcases List.mem_cons.1 hk with rfl|hk
  ·refine Int.le_trans ?_ (FM ds l _);rw [if_pos ⟨h0,h1⟩];exact Int.le_max_right _ _
  ·exact Pz ds l _ k hk h0 h1
theorem PA (ds:List Int):∀(l:List Int) (m M:Int),m≤M→(∀k∈l,0≤k→k<ds.length→ds.getD k.toNat 0≤M)→cQ ds l m≤M
 |[],m,M,h,_=>h
 |k::l,m,M,h,hk=>by
  unfold cQ;refine PA ds l _ M ?_ (fun q hq=>hk q (by simp [hq]));split
  ·rename_i hc;exact Int.max_le.2 ⟨h,hk k ai hc.1 hc.2⟩
  ·exact h
theorem rN:∀(l:List Nd) (ds:List Int),(bM l ds).length=ds.length+l.length
 |[],ds=>by simp [bM]
 |x::l,ds=>by unfold bM;rw [rN l];simp;omega
theorem rO:∀(l:List Nd) (ds:List Int) (i:Nat),i<ds.length→(bM l ds)[i]?=ds[i]?
 |[],ds,i,h=>rfl
 |x::l,ds,i,h=>by
  unfold bM;rw [rO l _ i aV,List.getElem?_append_left h]
theorem yQ:∀(a b:List Nd) (ds:List Int),bM (a++b) ds=bM b (bM a ds)
 |[],b,ds=>rfl
 |x::a,b,ds=>by
  show bM (a++b) _=_;rw [yQ a b];rfl
def GY (ns:List Nd) (n:Nat):Int:=(bM ns []).getD n 0
theorem AO {ns:List Nd} {n:Nat} {x:Nd} (hx:ns[n]?=some x):∃ds:List Int,ds.length=n∧(∀i,i<n→ds.getD i 0=GY ns i)∧GY ns n=cQ ds x.kids 0+1:=by
 have hn:=aG hx;have aaK:ns=ns.take n++x::ns.drop (n+1):=by
  have h1:=List.take_append_drop n ns;rw [List.drop_eq_getElem_cons hn] at h1;obtain⟨_,h2⟩:=List.getElem?_eq_some_iff.1 hx;rw [h2] at h1;exact h1.symm
 have hl:(bM (ns.take n) []).length=n:=by rw [rN];simp;omega
 have hD:bM ns []=bM (ns.drop (n+1)) (bM (ns.take n) []++[cQ (bM (ns.take n) []) x.kids 0+1]):=by
  conv=>lhs;rw [aaK]
  rw [yQ];rfl
 refine⟨bM (ns.take n) [],hl,fun i hi=>?_, ?_⟩
 ·unfold GY;rw [hD,List.getD,List.getD,rO (ns.drop (n+1)) _ i (by rw [List.length_append];omega),List.getElem?_append_left aa]
 ·unfold GY;rw [hD,List.getD,rO (ns.drop (n+1)) _ n (by rw [List.length_append];simp;omega),List.getElem?_append_right aa,hl];simp
theorem Val.AP (h:Val ns) {n:Nat} {x:Nd} (hx:ns[n]?=some x) {k:Nat} (hk:(k:Int)∈x.kids):GY ns k+1≤GY ns n:=by
 obtain⟨ds,h1,h2,h3⟩:=AO hx;obtain⟨z,y,e,hz,_⟩:=h.kid hx hk;have XI:k<n:=aa;have:=Pz ds x.kids 0 (k:Int) hk aa aa;rw [Int.toNat_natCast,h2 k XI] at this;omega
theorem Uh (hC:Cut d ns ms) (h:Val ns) (hd:d=true→bX ns):∀(n:Nat) (x:Nd),ns[n]?=some x→laidB d ns n=true→GY ms (gA d ns n)≤GY ns n:=by
 intro n
 induction n using Nat.strongRecOn with
 |ind n ih=>
 intro x hx hl;have cD:1≤GY ns n:=by
  obtain⟨ds,_,_,e⟩:=AO hx;have:=FM ds x.kids 0;omega
 cases pZ:dA ns n with
 |true=>
  obtain⟨y,g1,_,_,g4,_⟩:=hC.top n x hx hl pZ;obtain⟨ds,_,_,e⟩:=AO g1;rw [g4] at e;simp only [cQ] at e;omega
 |false=>
  have ht:=((cT hx).1 hl).1;rw [pZ] at ht;have ht:=ht.resolve_left ai;obtain⟨y,g1,_,_,_,g5⟩:=hC.aT n x hx hl pZ;obtain⟨ds,e1,e2,e3⟩:=AO g1;rw [e3];have:cQ ds y.kids 0≤GY ns n - 1:=by
   refine PA ds _ 0 _ aa fun k hk k0 k1=>?_
   rw [g5] at hk;obtain⟨q,hq,rfl⟩:=List.mem_map.1 hk;have hq:=List.mem_filter.1 hq;obtain⟨z,u,a1,a2,a3,a4,_,a6⟩:=h.kr hx ht hq.1;obtain⟨z',u',b1,b2,b3,b4,b5⟩:=h.iG hd hx ht hq.1 hq.2;obtain rfl:z=z':=by have:=a1.symm.trans b1;omega
   rw [b5,Int.toNat_natCast,e2 _ (rY a2 b4)];have h1:=ih z a2 u a3 b4;have h2:GY ns z+1≤GY ns n:=by
    rcases a6 with⟨_,_,p,b,rfl,hb,_,hm⟩|⟨_,rfl⟩
    ·have:=h.AP hb hm;have:=h.AP hx hq.1;omega
    ·exact h.AP hx hq.1
   omega
  omega
theorem sQ {ns:List Nd} {l:Nat} (hl:ns.length=l+1):eD ns=GY ns l:=by
 unfold eD lW GY;have:(bM ns []).length=l+1:=by rw [rN];simp [hl]
 rw [List.getLastD_eq_getLast?,List.getLast?_eq_getElem?,this];rfl
theorem pU (hC:Cut d ns ms) (h:Val ns) (hd:d=true→bX ns):Val ms:=by
 obtain⟨l,x,e,hx,_,_,_⟩:=h.last (d:=d);have hlen:=zb h hC e;refine⟨Py hC h hd,G5 h hd hC,Ka h hd hC,fun e=>by rw [e] at hlen;simp at hlen, ?_⟩;rw [sQ hlen.2];have h1:=Uh hC h hd l x hx hlen.1;have h2:=h.deep;rw [sQ e] at h2;omega
end
end Go.Proofs.YtbgjanmheagilaaGreatDoor
/- A part of the proof. Conditions: none. -/
set_option maxRecDepth 100000
set_option maxHeartbeats 8000000
namespace Go.Proofs.YtbgjanmheagilaaGreatDoor
open Go Go.RowKit Go.Nodes
theorem KQ:((List.range 37).all fun K=>decide (K=22)||(aI K).all fun c=>decide (c=42)||decide (c=46)|| !iX 23 c.toNat)=true:=by decide+kernel
theorem Ia {K:Nat} (h1:1≤K) (nO:K≤36) (hn:K≠22) {ks:List Nat} (h:bE (aI K) ks=true):23 ∉ ks:=fun hk=>by
 obtain⟨c,a,b1,b2,e⟩:=pI aa nO h 23 hk;have t:=List.all_eq_true.1 KQ K (List.mem_range.2 aa);exact KR
theorem XK {ks:List Nat} (h:bE (aI 4) ks=true):ks.length=2∧iX (ks.getD 1 0) 69=true:=by
 rw [show aI 4=[100,69] by decide] at h;unfold bE at h;rw [if_neg ay] at h;split at h
 ·cases h
 ·rename_i h2;split at h
  ·cases h
  ·rename_i h3;have hc:([100,69]:List UInt8).count 42=0:=ay;rw [hc] at h h2 h3;simp only [List.length_cons,List.length_nil] at h h2 h3;rcases ks with _|⟨a,_|⟨b,_|⟨c,l⟩⟩⟩
   ·simp at h2
   ·simp at h2
   ·refine⟨rfl, ?_⟩;simp only [fL] at h;simp at h;exact h.2
   ·simp at h3
theorem Qb {ks:List Nat} (h:bE (aI 22) ks=true):2≤ks.length∧(∀k∈ks.take (ks.length - 2),k=23)∧ks.getD (ks.length - 1) 0=3:=by
 rw [show aI 22=[80,42,116,98] by decide] at h;unfold bE at h;rw [if_neg ay] at h;split at h
 ·cases h
 ·rename_i h2;split at h
  ·cases h
  ·have hc:([80,42,116,98]:List UInt8).count 42=1:=by decide
   rw [hc] at h h2;simp only [List.length_cons,List.length_nil] at h h2;have hl:2≤ks.length:=aa;obtain⟨a,b,c,rfl⟩:∃a b c,ks=a++[b,c]:=by
    have e:=List.take_append_drop (ks.length - 2) ks;have hd:(ks.drop (ks.length - 2)).length=2:=aV
    match hm:ks.drop (ks.length - 2),hd with
    |[b,c],_=>exact⟨_,b,c,by rw [←hm];exact e.symm⟩
   have hla:(a++[b,c]).length - 2=a.length:=ai;refine⟨hl, ?_, ?_⟩
   ·rw [hla,List.take_left];simp only [fL] at h;simp [iX] at h;intro k hk;exact h.1 k hk
   ·simp only [fL] at h;simp [iX] at h;simp [List.getD];exact h.2.2
def KS (x:Nd):Prop:=aq x.kind=false∧x.kind≠1∧x.kind≠2∧x.kind≠23
theorem abT {s:Fs} {n e:Int} (he:e≠0) (h:(bt s n e).e=0):False:=by
 unfold bt at h;split at h
 ·exact he h
 ·rename_i h2;exact h2 h
theorem ni {s:Fs} {n e:Int} (he:e≠0):(bt s n e).e≠0:=fun h=>abT he h
theorem XL (s:Fs) (n fn:Int):(lC s n fn).e=s.e:=rfl
theorem zy {ns:List Nd} {s:Fs} {n fn:Int} (h:(eE ns s n fn).e=0):s.e=0∧¬0≤bn (gN ns n)∧¬200<(cG s fn).many.getD fn.toNat 0:=by
 unfold eE at h;simp only at h;rw [XL] at h;by_cases h1:0≤bn (gN ns n)
 ·rw [if_pos h1] at h;split at h
  ·exact absurd h (ni ay)
  ·exact absurd h (ni (s:=s) (n:=n) (e:=110) ay)
 ·rw [if_neg h1] at h;split at h
  ·exact absurd h (ni ay)
  ·rename_i h2;exact⟨h,h1,h2⟩
theorem F6 {ns:List Nd} {s:Fs} {n fn:Int} (h1:¬0≤bn (gN ns n)) (h2:¬200<(cG s fn).many.getD fn.toNat 0):eE ns s n fn=lC (cG s fn) n fn:=by
 unfold eE;simp only;rw [if_neg h1,if_neg h2]
theorem Qc {ns:List Nd} {s:Fs} {n fn:Int} {set:Bool} (h:(jy ns s n fn set).e=0):s.e=0∧∃v,s.seen.reverse.find? (fun v=>gN ns (lX s v)==gN ns n)=some v∧jy ns s n fn set=fk s n v fn set:=by
 unfold jy at h ⊢;split at h
 ·rename_i v hv;exact⟨h,v,hv,rfl⟩
 ·exact absurd h (ni ay)
theorem pJ {ns:List Nd} {k:Nat} {n fn:Int} {loop:Bool} {s:Fs} (h:(aH ns k n fn loop s).e=0):s.e=0:=by
 cases k with
 |zero=>exact h
 |succ k=>
  by_cases e:s.e=0
  ·exact e
  ·unfold aH at h;rw [if_pos e] at h;exact h
theorem ur (ns:List Nd) (k:Int):∀(pre:List Int) (s:Fs),(pre.foldl (fun s m=>if gN ns k==gN ns m then bt s k 110 else s) s).e=0→s.e=0∧(∀m∈pre,(gN ns k==gN ns m)=false)∧pre.foldl (fun s m=>if gN ns k==gN ns m then bt s k 110 else s) s=s
 |[],s,h=>⟨h,(fun m hm=>nomatch hm),rfl⟩
 |m::pre,s,h=>by
  rw [List.foldl_cons] at h ⊢;obtain⟨a,b,c⟩:=ur ns k pre _ h;cases ht:(gN ns k==gN ns m) with
  |true=>rw [ht] at a;exact absurd a (ni ay)
  |false=>
   rw [ht] at a c;simp only [Bool.false_eq_true,if_false] at a c ⊢;exact⟨a,fun q hq=>by rcases List.mem_cons.1 hq with rfl|hq;exact ht;exact b q hq,c⟩
theorem BB (ns:List Nd) (k:Int):∀(pre:List Int) (s:Fs),(∀m∈pre,(gN ns k==gN ns m)=false)→pre.foldl (fun s m=>if gN ns k==gN ns m then bt s k 110 else s) s=s
 |[],s,h=>rfl
 |m::pre,s,h=>by
  rw [List.foldl_cons,h m ai];exact BB ns k pre s fun q hq=>h q (by simp [hq])
theorem xw {ns:List Nd} {fn:Int}:∀(ks pre:List Int) (s:Fs),(cS ns fn pre ks s).e=0→s.e=0
 |[],pre,s,h=>h
 |k::ks,pre,s,h=>by
  unfold cS at h;exact(ur ns k pre s (zy (xw ks _ _ h)).1).1
theorem F7 {ns:List Nd} {k:Nat} {fn:Int} {loop:Bool}:∀(l:List Int) (s:Fs),(l.foldl (fun s q=>aH ns k q fn loop s) s).e=0→s.e=0
 |[],s,h=>h
 |q::l,s,h=>pJ (F7 l _ h)
section
variable {ns ms:List Nd} {d:Bool}
structure afB (d:Bool) (ns:List Nd) (v v':Vr):Prop where
 fn:v'.fn=v.fn
 taken:v'.taken=v.taken
 set:v'.set=v.set
 node:∃(n:Nat) (x:Nd),v.node=(n:Int)∧ns[n]?=some x∧aq x.kind=false∧¬(d=true∧x.kind=2)∧v'.node=(gA d ns n:Int)
structure au (d:Bool) (ns:List Nd) (s s':Fs):Prop where
 e:s.e=0
 e':s'.e=0
 len:s'.vars.length=s.vars.length
 vars:∀(i:Nat) (v v':Vr),s.vars[i]?=some v→s'.vars[i]?=some v'→afB d ns v v'
 seen:s'.seen=s.seen
 uu:∀v∈s.seen,0≤v∧v<s.vars.length
 many:s'.many=s.many
 funcs:s'.funcs.length=s.funcs.length
theorem zz (hC:Cut d ns ms) {n:Nat} {x:Nd} (hx:ns[n]?=some x) (ht:aq x.kind=false) (h2:¬(d=true∧x.kind=2)):gN ms (gA d ns n:Int)=gN ns (n:Int):=by
 obtain⟨y,g1,_,g3,_⟩:=hC.plain hx ht h2;unfold gN;rw [Int.toNat_natCast,Int.toNat_natCast,g1,hx];simp only [g3]
theorem au.add {s s':Fs} (h:au d ns s s') (hC:Cut d ns ms) {n:Nat} {x:Nd} (hx:ns[n]?=some x) (ht:aq x.kind=false) (h2:¬(d=true∧x.kind=2)) {fn:Int} (he:(eE ns s (n:Int) fn).e=0):au d ns (eE ns s (n:Int) fn) (eE ms s' (gA d ns n:Int) fn):=by
 obtain⟨_,a1,a2⟩:=zy he;have b2:(cG s' fn).many=(cG s fn).many:=by unfold cG;rw [h.many]
 rw [F6 a1 a2,F6 (by rw [zz hC hx ht h2];exact a1) (by rw [b2];exact a2)];refine⟨h.e,h.e', ?_, ?_, ?_, ?_,b2,h.funcs⟩
 ·show(s'.vars++[_]).length=(s.vars++[_]).length;simp [h.len]
 ·intro i v v' hv hv';have hv:(s.vars++[(⟨(n:Int),fn,false,false⟩:Vr)])[i]?=some v:=hv;have hv':(s'.vars++[(⟨(gA d ns n:Int),fn,false,false⟩:Vr)])[i]?=some v':=hv';rcases Nat.lt_or_ge i s.vars.length with hl|hl
  ·rw [List.getElem?_append_left hl] at hv;rw [List.getElem?_append_left (by rw [h.len];exact hl)] at hv';exact h.vars i v v' hv hv'
  ·rw [List.getElem?_append_right hl] at hv;rw [List.getElem?_append_right (by rw [h.len];exact hl),h.len] at hv';cases hi:i - s.vars.length with
   |zero=>
    rw [hi] at hv hv';simp at hv hv';subst hv hv';exact⟨rfl,rfl,rfl,n,x,rfl,hx,ht,h2,rfl⟩
   |succ j=>rw [hi] at hv;simp at hv
 ·show s'.seen++[(s'.vars.length:Int)]=s.seen++[(s.vars.length:Int)];rw [h.seen,h.len]
 ·intro v hv;have hv:v∈s.seen++[(s.vars.length:Int)]:=hv;show 0≤v∧v<((s.vars++[_]).length:Nat);rw [List.length_append,List.length_singleton];rcases List.mem_append.1 hv with hv|hv
  ·have:=h.uu v hv;omega
  ·have:=List.mem_singleton.1 hv;omega
theorem find_congr {α:Type} {p q:α→Bool}:∀(l:List α),(∀a∈l,p a=q a)→l.find? p=l.find? q
 |[],_=>rfl
 |a::l,h=>by
  rw [List.find?_cons,List.find?_cons,h a ai,find_congr l fun b hb=>h b (by simp [hb])]
theorem au.use {s s':Fs} (h:au d ns s s') (hC:Cut d ns ms) {n:Nat} {x:Nd} (hx:ns[n]?=some x) (ht:aq x.kind=false) (h2:¬(d=true∧x.kind=2)) {fn:Int} {set:Bool} (he:(jy ns s (n:Int) fn set).e=0):au d ns (jy ns s (n:Int) fn set) (jy ms s' (gA d ns n:Int) fn set):=by
 obtain⟨_,v,hv,e⟩:=Qc he;have F8:s'.seen.reverse.find? (fun v=>gN ms (lX s' v)==gN ms (gA d ns n:Int))=some v:=by
  rw [h.seen,←hv];refine find_congr _ fun a ha=>?_
  obtain⟨a0,a1⟩:=h.uu a (List.mem_reverse.1 ha);have g1:s.vars[a.toNat]?=some s.vars[a.toNat]:=List.getElem?_eq_getElem aa;have g2:s'.vars[a.toNat]?=some (s'.vars[a.toNat]'(by rw [h.len];omega)):=List.getElem?_eq_getElem _;obtain⟨_,_,_,m,y,c1,c2,c3,c4,c5⟩:=h.vars a.toNat _ _ g1 g2;unfold lX;rw [g1,g2];simp only;rw [c1,c5,zz hC c2 c3 c4,zz hC hx ht h2]
 have e':jy ms s' (gA d ns n:Int) fn set=fk s' (gA d ns n:Int) v fn set:=by
  unfold jy;rw [F8]
 rw [e,e'];refine⟨h.e,h.e', ?_, ?_,h.seen, ?_,h.many,h.funcs⟩
 ·simp [fk,h.len]
 ·intro i u u' hu PK;simp only [fk] at hu PK;rw [List.getElem?_modify] at hu PK;cases g1:s.vars[i]? with
  |none=>rw [g1] at hu;simp at hu
  |some w=>
   cases g2:s'.vars[i]? with
   |none=>rw [g2] at PK;simp at PK
   |some w'=>
    obtain⟨c1,c2,c3,c4⟩:=h.vars i w w' g1 g2;rw [g1] at hu;rw [g2] at PK;simp only [Option.map_some,Option.some.injEq,Option.map_eq_map] at hu PK;by_cases ei:v.toNat=i
    ·rw [if_pos ei] at hu PK;subst hu PK;exact⟨c1,by simp only [c1,c2],by simp only [c3],c4⟩
    ·rw [if_neg ei] at hu PK;subst hu PK;exact⟨c1,c2,c3,c4⟩
 ·intro w hw;have:=h.uu w hw;simpa [fk] using this
theorem au.cut {s s' t t':Fs} (h:au d ns s s') (n:Nat):au d ns {s with seen:=s.seen.take n} {s' with seen:=s'.seen.take n}:=
 ⟨h.e,h.e',h.len,h.vars,by simp only [h.seen],fun v hv=>h.uu v (List.mem_of_mem_take hv),h.many,h.funcs⟩
theorem KT:((List.range 37).all fun k=> !iX k 69||(!Ib k && decide (k≠1) && decide (k≠2) && decide (k≠23)))=true:=by decide+kernel
theorem jf {z:Nat} {u:Nd} (hu:ns[z]?=some u) (hv:aq u.kind=false):jG d ns (z:Int)=(gA d ns z:Int):=by
 unfold jG rep;rw [ah hu,if_neg (by intro e;rw [e] at hv;cases hv),Int.toNat_natCast]
theorem Val.vis (h:Val ns) {n:Nat} {x:Nd} (hx:ns[n]?=some x) (ht:x.kind<31) (hne:x.kind≠4∧x.kind≠22∧x.kind≠23∧x.kind≠1) {k:Int} (hk:k∈x.kids):∃(z:Nat) (u:Nd),k=(z:Int)∧z<n∧ns[z]?=some u∧KS u:=by
 obtain⟨z,u,e,hz,hu⟩:=h.kid hx hk;have h1:=h.plain hx ht ⟨hne.1,hne.2.1,hne.2.2.1⟩ hk;have h2:=h.chan hx hne.2.2.2 hk;have cX:=h.kind hx;have XM:=h.kind hu;have h3:=Ia (K:=x.kind.toNat) aa aa aa (h.node n x (aG hx) hx).fits;rw [e,ah hu] at h1 h2;refine⟨z,u,e,hz,hu,h1,fun e1=>?_,h2,fun e1=>h3 ?_⟩
 ·have:=((h.root z (aG hu)).1).1 (by rw [ah hu];exact e1);have:=aG hx;omega
 ·have h4:=List.mem_map_of_mem (f:=fun k=>(ag ns k).toNat) hk;simp only [e,ah hu,e1] at h4;exact h4
theorem qJ {l:List Int} {i:Nat} (h:i<l.length):l.getD i 0∈l:=by rw [List.getD,List.getElem?_eq_getElem h];exact List.getElem_mem h
theorem getD_map {l:List Int} {i:Nat} (h:i<l.length) (f:Int→Int):(l.map f).getD i 0=f (l.getD i 0):=by simp [List.getD,List.getElem?_eq_getElem h]
theorem oD (ns:List Nd) (l:List Int):(aO ns l).length=l.length:=by simp [aO]
theorem jg {ns:List Nd} {n:Nat} {x:Nd} (hx:ns[n]?=some x):aF ns (n:Int)=x.kids:=by unfold aF;rw [Int.toNat_natCast,hx]
theorem uv (hC:Cut d ns ms) (fn:Int):∀(ks pre:List Int) (s s':Fs),au d ns s s'→(∀k∈pre++ks,∃(z:Nat) (u:Nd),k=(z:Int)∧ns[z]?=some u∧u.kind=23)→(cS ns fn pre ks s).e=0→
  au d ns (cS ns fn pre ks s) (cS ms fn (pre.map (jG d ns)) (ks.map (jG d ns)) s')
 |[],pre,s,s',h,_,_=>h
 |k::ks,pre,s,s',h,hp,he=>by
  have PI:∀q∈pre++(k::ks),gN ms (jG d ns q)=gN ns q:=fun q hq=>by
   obtain⟨z,u,rfl,hu,ku⟩:=hp q hq;have hv:aq u.kind=false:=by rw [ku];rfl
   rw [jf hu hv,zz hC hu hv (by rw [ku];simp)]
  obtain⟨z,u,hz,hu,ku⟩:=hp k ai;have hv:aq u.kind=false:=by rw [ku];rfl
  show au d ns (cS ns fn pre (k::ks) s) (cS ms fn (pre.map (jG d ns)) (jG d ns k::ks.map (jG d ns)) s');unfold cS at he ⊢;have wM:=xw ks _ _ he;obtain⟨t1,t2,t3⟩:=ur ns k pre s (zy wM).1;have t4:(pre.map (jG d ns)).foldl (fun s m=>if gN ms (jG d ns k)==gN ms m then bt s (jG d ns k) 110 else s) s'=s':=by
   refine BB ms _ _ _ fun m hm=>?_
   obtain⟨q,hq,rfl⟩:=List.mem_map.1 hm;rw [PI k ai,PI q (by simp [hq])];exact t2 q hq
  rw [t4];rw [t3] at he wM ⊢;have h1:au d ns (eE ns s k fn) (eE ms s' (jG d ns k) fn):=by
   rw [hz] at wM ⊢;rw [jf hu hv];exact h.add hC hu hv (by rw [ku];simp) wM
  have:=uv hC fn ks (pre++[k]) _ _ h1 (fun q hq=>hp q (by simpa using hq)) he
  rwa [List.map_append] at this
def F9 (d:Bool) (ns ms:List Nd) (f:Nat):Prop:=∀(f' n:Nat) (x:Nd) (fn:Int) (loop:Bool) (s s':Fs),ns[n]?=some x→KS x→n<f→gA d ns n<f'→au d ns s s'→(aH ns f (n:Int) fn loop s).e=0→au d ns (aH ns f (n:Int) fn loop s) (aH ms f' (gA d ns n:Int) fn loop s')
theorem KS.laid {z:Nat} {u:Nd} (hv:KS u) (hu:ns[z]?=some u):laidB d ns z=true:=(cT hu).2 ⟨.inr hv.1,fun e=>hv.2.2.1 e.2⟩
theorem uw (f f' n:Nat) (IH:F9 d ns ms f) (hf:n≤f) (hf':gA d ns n≤f') (fn:Int) (loop:Bool):∀(l:List Int) (s s':Fs),(∀k∈l,∃(z:Nat) (u:Nd),k=(z:Int)∧z<n∧ns[z]?=some u∧KS u)→au d ns s s'→(l.foldl (fun s q=>aH ns f q fn loop s) s).e=0→
  au d ns (l.foldl (fun s q=>aH ns f q fn loop s) s) ((l.map (jG d ns)).foldl (fun s q=>aH ms f' q fn loop s) s')
 |[],s,s',_,h,_=>h
 |q::l,s,s',hk,h,he=>by
  rw [List.map_cons,List.foldl_cons,List.foldl_cons];rw [List.foldl_cons] at he;obtain⟨z,u,rfl,hz,hu,hv⟩:=hk q ai;refine uw f f' n IH hf hf' fn loop l _ _ (fun k Bc=>hk k (by simp [Bc])) ?_ he;rw [jf hu hv.1];exact IH f' z u fn loop s s' hu hv aa (by have:=rY (d:=d) hz (hv.laid hu);omega) h (F7 l _ he)
theorem BC (hC:Cut d ns ms) (h:Val ns):∀f,F9 d ns ms f
 |0=>fun f' n x fn loop s s' hx hv hf _ _ _=>by omega
 |f+1=>fun f' n x fn loop s s' hx hv hf hf' hS he=>by
  have IH:=BC hC h f;obtain⟨g',rfl⟩:∃g',f'=g'+1:=⟨f' - 1,by omega⟩;have cX:=h.kind hx;have hnt:=(ng _).1 hv.1;obtain⟨y,g1,g2,g3,g4,g5⟩:=hC.plain hx hv.1 (fun e=>hv.2.2.1 e.2);rw [fq h hx (.inl hv.2.1)] at g5;have fS:=(h.node n x (aG hx) hx).fits;have K1:=ah hx;have K2:=ah g1;rw [g2] at K2;have L1:=jg hx;have L2:=jg g1;rw [g5] at L2;have S0:=hS.e;have S1:=hS.e';have step:∀(z:Nat) (u:Nd) (fn:Int) (loop:Bool) (t t':Fs),ns[z]?=some u→KS u→z<n→au d ns t t'→(aH ns f (z:Int) fn loop t).e=0→au d ns (aH ns f (z:Int) fn loop t) (aH ms g' (jG d ns (z:Int)) fn loop t'):=fun z u fn loop t t' hu tE hz ht he=>by
   rw [jf hu tE.1];exact IH g' z u fn loop t t' hu tE aa (by have:=rY (d:=d) hz (tE.laid hu);omega) ht he
  have kid:∀i,i<x.kids.length→(x.kind≠4∧x.kind≠22)→∃(z:Nat) (u:Nd),x.kids.getD i 0=(z:Int)∧z<n∧ns[z]?=some u∧KS u:=fun i hi hne=>h.vis hx aa ⟨hne.1,hne.2,hv.2.2.2,hv.2.1⟩ (qJ hi)
  simp only [aH,S0,S1,ne_eq,not_true_eq_false,if_false,K1,K2,L1,L2] at he ⊢;by_cases e17:x.kind=17
  ·rw [if_pos e17] at he ⊢;rw [if_pos e17];exact hS.use hC hx hv.1 (fun e=>hv.2.2.1 e.2) he
  rw [if_neg e17] at he ⊢;rw [if_neg e17];by_cases e11:x.kind=11
  ·rw [if_pos e11] at he ⊢;rw [if_pos e11];cases loop with
   |true=>exact hS
   |false=>exact absurd he (ni ay)
  rw [if_neg e11] at he ⊢;rw [if_neg e11];by_cases KU:x.kind=22
  ·rw [if_pos KU] at he ⊢;rw [if_pos KU];rw [KU] at fS;obtain⟨a1,a2,a3⟩:=Qb fS;rw [oD] at a1 a2 a3;unfold pK at he ⊢;simp only [L1,L2] at he ⊢;rw [List.length_map,getD_map aa,←List.map_take,hS.funcs];obtain⟨z,u,ez,hz,hu⟩:=h.kid hx (qJ (l:=x.kids) (i:=x.kids.length - 1) aa);have ku:u.kind=3:=by
    have hh:(aO ns x.kids).getD (x.kids.length - 1) 0=(ag ns (x.kids.getD (x.kids.length - 1) 0)).toNat:=by
     simp [aO,List.getD,List.getElem?_eq_getElem (show x.kids.length - 1<x.kids.length by omega)]
    rw [hh,ez,ah hu] at a3;omega
   have tE:KS u:=by refine⟨by rw [ku];rfl, ?_, ?_, ?_⟩<;>omega
   rw [ez] at he ⊢;have qB:(aH ns f (z:Int) (s.funcs.length:Int) false (cS ns (s.funcs.length:Int) [] (x.kids.take (x.kids.length - 2)) {s with funcs:=s.funcs++[(n:Int)],jh:=s.jh++[fn],many:=s.many++[0]})).e=0:=he;have hS1:au d ns {s with funcs:=s.funcs++[(n:Int)],jh:=s.jh++[fn],many:=s.many++[0]} {s' with funcs:=s'.funcs++[(gA d ns n:Int)],jh:=s'.jh++[fn],many:=s'.many++[0]}:=
    ⟨S0,S1,hS.len,hS.vars,hS.seen,hS.uu,by simp only [hS.many],by simp only [List.length_append,hS.funcs];rfl⟩
   have hP:=uv hC (s.funcs.length:Int) (x.kids.take (x.kids.length - 2)) [] _ _ hS1 (fun k hk=>by
    have hk:k∈x.kids.take (x.kids.length - 2):=hk;obtain⟨p,w,rfl,hp,hw⟩:=h.kid hx (List.mem_of_mem_take hk);refine⟨p,w,rfl,hw, ?_⟩;have:=a2 (ag ns (p:Int)).toNat (by
     unfold aO;rw [←List.map_take];exact List.mem_map_of_mem (f:=fun k=>(ag ns k).toNat) hk)
    rw [ah hw] at this;omega) (pJ qB)
   have hN:=step z u (s.funcs.length:Int) false _ _ hu tE hz hP qB;have cP:=hN.cut (t:=s) (t':=s) s.seen.length;have hl:s'.seen.length=s.seen.length:=by rw [hS.seen]
   rw [hl];exact cP
  rw [if_neg KU] at he ⊢;rw [if_neg KU];by_cases e4:x.kind=4
  ·rw [if_pos e4] at he ⊢;rw [if_pos e4];rw [e4] at fS;obtain⟨a1,a2⟩:=XK fS;rw [oD] at a1;obtain⟨z,u,ez,hz,hu⟩:=h.kid hx (qJ (l:=x.kids) (i:=1) aa);have tE:KS u:=by
    have hh:(aO ns x.kids).getD 1 0=(ag ns (x.kids.getD 1 0)).toNat:=by
     simp [aO,List.getD,List.getElem?_eq_getElem (show 1<x.kids.length by omega)]
    rw [hh,ez,ah hu] at a2;have AU:=h.kind hu;have t:=List.all_eq_true.1 KT u.kind.toNat (List.mem_range.2 aa);rw [a2] at t;simp [Ib] at t;refine⟨(ng _).2 ?_, ?_, ?_, ?_⟩<;>omega
   rw [getD_map aa,ez];rw [ez] at he;by_cases e0:(aH ns f (z:Int) fn loop s).e=0
   ·have hN:=step z u fn loop s s' hu tE hz hS e0;rw [if_pos e0] at he ⊢;rw [if_pos hN.e'];exact hN.add hC hx hv.1 (fun e=>hv.2.2.1 e.2) he
   ·rw [if_neg e0] at he;exact absurd he e0
  rw [if_neg e4] at he ⊢;rw [if_neg e4];by_cases e5:x.kind=5
  ·rw [if_pos e5] at he ⊢;rw [if_pos e5];have h0:0<x.kids.length:=by
    rw [e5] at fS;exact Em
   obtain⟨z,u,ez,hz,hu,tE⟩:=kid 0 h0 ⟨e4,KU⟩;rw [getD_map h0,ez];rw [ez] at he;exact step z u fn loop _ _ hu tE hz (hS.add hC hx hv.1 (fun e=>hv.2.2.1 e.2) (pJ he)) he
  rw [if_neg e5] at he ⊢;rw [if_neg e5];by_cases e6:x.kind=6
  ·rw [if_pos e6] at he ⊢;rw [if_pos e6];have h0:1<x.kids.length:=by
    rw [e6] at fS;exact Em
   obtain⟨z,u,ez,hz,hu,tE⟩:=kid 0 aa ⟨e4,KU⟩;obtain⟨z1,u1,ez1,hz1,Ga,XN⟩:=kid 1 h0 ⟨e4,KU⟩;rw [getD_map (show 0<x.kids.length by omega),getD_map h0,ez,ez1];rw [ez,ez1] at he;obtain⟨w,w1,_⟩:=hC.plain hu tE.1 (fun e=>tE.2.2.1 e.2);have eA:ag ms (jG d ns (z:Int))=ag ns (z:Int):=by
    rw [jf hu tE.1,ah w1,ah hu];rename_i w2;exact w2.1
   rw [eA];refine step z1 u1 fn loop _ _ Ga XN hz1 ?_ he;have wM:=pJ he;split
   ·rename_i UJ;rw [if_pos UJ] at wM;rw [jf hu tE.1];exact hS.use hC hu tE.1 (fun e=>tE.2.2.1 e.2) wM
   ·rename_i UJ;rw [if_neg UJ] at wM;exact step z u fn loop _ _ hu tE hz hS wM
  rw [if_neg e6] at he ⊢;rw [if_neg e6];by_cases e9:x.kind=9
  ·rw [if_pos e9] at he ⊢;rw [if_pos e9];have h0:1<x.kids.length:=by
    rw [e9] at fS;exact Em
   obtain⟨z,u,ez,hz,hu,tE⟩:=kid 0 aa ⟨e4,KU⟩;obtain⟨z1,u1,ez1,hz1,Ga,XN⟩:=kid 1 h0 ⟨e4,KU⟩;rw [getD_map (show 0<x.kids.length by omega),getD_map h0,ez,ez1];rw [ez,ez1] at he;exact step z1 u1 fn true _ _ Ga XN hz1 (step z u fn loop _ _ hu tE hz hS (pJ he)) he
  rw [if_neg e9] at he ⊢;rw [if_neg e9];have eM:∀k∈x.kids,∃(z:Nat) (u:Nd),k=(z:Int)∧z<n∧ns[z]?=some u∧KS u:=fun k hk=>h.vis hx aa ⟨e4,KU,hv.2.2.2,hv.2.1⟩ hk
  by_cases e3:x.kind=3
  ·rw [if_pos e3] at he ⊢;rw [if_pos e3];have hF:=uw f g' n IH aa aa fn loop x.kids s s' eM hS he;have cP:=hF.cut (t:=s) (t':=s) s.seen.length;have hl:s'.seen.length=s.seen.length:=by rw [hS.seen]
   rw [hl];exact cP
  ·rw [if_neg e3] at he ⊢;rw [if_neg e3];exact uw f g' n IH aa aa fn loop x.kids s s' eM hS he
end
end Go.Proofs.YtbgjanmheagilaaGreatDoor