/- A part of the proof. Conditions: none. -/
import Derived.Test.YtjchnliaglecoaaGreatDoorZz
import Derived.Test.YtjchnliaglecoaaGreatDoorSb
import Derived.Test.YtjchnliaglecoaaGreatDoorFmX
import Derived.Test.YtjchnliaglecoaaGreatDoorQr
set_option linter.unusedVariables false
set_option linter.unusedSimpArgs false
set_option maxRecDepth 100000
set_option maxHeartbeats 8000000
namespace Go.Proofs.YtjchnliaglecoaaGreatDoor
open Go Go.RowKit Go.Nodes
def eY (ns:List Nd) (n:Int):ByteArray:=match ns[n.toNat]? with
 |some x=>x.text
 |none=>⟨#[]⟩
def jt (sep:ByteArray) (g:Nat→ByteArray):Nat→ByteArray
 |0=>⟨#[]⟩
 |i+1=>(if 0<i then jt sep g i++sep else jt sep g i)++g i
def bt (g:Nat→ByteArray):Nat→ByteArray
 |0=>⟨#[]⟩
 |i+1=>bt g i++g i
def og (s:ByteArray):ByteArray:=(⟨#[40]⟩:ByteArray)++s++(⟨#[41]⟩:ByteArray)
section
variable (ns:List Nd) (E:Int→Nat→ByteArray) (K:Int→ByteArray) (S:Int→Nat→ByteArray)
def bB (k r:Int) (d:Nat):ByteArray:=if aH (aB ns k) (eY ns k).toList<r then og (E k d) else E k d
def dR (k:Int) (d:Nat):ByteArray:=if isAtom (aB ns k).toNat then E k d else og (E k d)
def dL (ks:List Int) (d:Nat):ByteArray:=jt ⟨#[44,32]⟩ (fun i=>E (ks.getD i 0) d) ks.length
def bO (k:Int):ByteArray:=if aB ns k=12 then⟨#[]⟩ else(⟨#[58,32]⟩:ByteArray)++K k
def eM (k:Int) (d:Nat):ByteArray:=bP d++S k d++(⟨#[10]⟩:ByteArray)
def aL (k:Int) (d:Nat):ByteArray:=bt (fun i=>eM S ((bp ns k).getD i 0) d) (bp ns k).length
def eC (k:Int):ByteArray:=eY ns k++bO ns K ((bp ns k).getD 0 0)
def fG (x:Nd) (d:Nat):ByteArray:=
 (⟨#[40]⟩:ByteArray)++jt ⟨#[44,32]⟩ (fun i=>eC ns K (x.kids.getD i 0)) (x.kids.length - 2)++(⟨#[41]⟩:ByteArray)++bO ns K (x.kids.getD (x.kids.length - 2) 0)++(⟨#[10]⟩:ByteArray)
  ++aL ns S (x.kids.getD (x.kids.length - 1) 0) (d+1)++bP d++(⟨#[101,110,100]⟩:ByteArray)
def kQ (k:Int) (d:Nat):ByteArray:=match ns[k.toNat]? with
 |some x=>fG ns K S x d
 |none=>⟨#[]⟩
def opT (x:Nd):ByteArray:=if x.kind=29 then⟨#[97,110,100]⟩ else if x.kind=30 then⟨#[111,114]⟩ else x.text
def zT (x:Nd):Bool:=(x.text.toList==[45]) && (decide (aB ns (x.kids.getD 0 0)=28) && ((eY ns (x.kids.getD 0 0)).toList==[45]))
def K5 (x:Nd) (d:Nat):ByteArray:=
 if(x.text.toList==[110,111,116])=true then(⟨#[110,111,116,32]⟩:ByteArray)++bB ns E (x.kids.getD 0 0) 7 d
 else if zT ns x=true then(⟨#[45,32]⟩:ByteArray)++bB ns E (x.kids.getD 0 0) 7 d else x.text++bB ns E (x.kids.getD 0 0) 7 d
def mq (x:Nd) (d:Nat):ByteArray:=bB ns E (x.kids.getD 0 0) (aH x.kind x.text.toList) d++(⟨#[32]⟩:ByteArray)++opT x++(⟨#[32]⟩:ByteArray)++bB ns E (x.kids.getD 1 0) (aH x.kind x.text.toList+1) d
def aF (x:Nd) (d:Nat):ByteArray:=
 if x.kind=13 then⟨#[110,105,108]⟩ else if x.kind=16 then iL x.text
 else if x.kind=18 then dR ns E (x.kids.getD 0 0) d++(⟨#[46]⟩:ByteArray)++x.text
 else if x.kind=19 then dR ns E (x.kids.getD 0 0) d++(⟨#[91]⟩:ByteArray)++E (x.kids.getD 1 0) d++(⟨#[93]⟩:ByteArray)
 else if x.kind=20 then dR ns E (x.kids.getD 0 0) d++(⟨#[40]⟩:ByteArray)++dL E (x.kids.drop 1) d++(⟨#[41]⟩:ByteArray)
 else if x.kind=21 then x.text++(⟨#[40]⟩:ByteArray)++dL E x.kids d++(⟨#[41]⟩:ByteArray)
 else if x.kind=22 then(⟨#[102,117,110,99,116,105,111,110]⟩:ByteArray)++fG ns K S x d
 else if x.kind=24 then(⟨#[123]⟩:ByteArray)++dL E x.kids d++(⟨#[125]⟩:ByteArray)
 else if x.kind=25 then x.text++(⟨#[32,61,32]⟩:ByteArray)++E (x.kids.getD 0 0) d
 else if x.kind=26 then E (x.kids.getD 0 0) d
 else if x.kind=28 then K5 ns E x d
 else if x.kind=27∨x.kind=29∨x.kind=30 then mq ns E x d
 else x.text
def cO (k:Int):ByteArray:=eY ns k++(⟨#[58,32]⟩:ByteArray)++K ((bp ns k).getD 0 0)
def bW (x:Nd):ByteArray:=
 if x.kind=32 then(⟨#[123]⟩:ByteArray)++jt ⟨#[44,32]⟩ (fun i=>cO ns K (x.kids.getD i 0)) x.kids.length++(⟨#[125]⟩:ByteArray)
 else if x.kind=34 then(⟨#[40]⟩:ByteArray)++jt ⟨#[44,32]⟩ (fun i=>K (x.kids.getD i 0)) (x.kids.length - 1)++(⟨#[41,32,45,62,32]⟩:ByteArray)++K (x.kids.getD (x.kids.length - 1) 0)
 else if x.kind=35 then jt ⟨#[32,124,32]⟩ (fun i=>K (x.kids.getD i 0)) x.kids.length
 else if x.kind=36 then K (x.kids.getD 0 0)++(⟨#[32,64,32]⟩:ByteArray)++gF x.text
 else x.text
def aQ (x:Nd) (d:Nat):ByteArray:=
 if x.kind=4 then(if aB ns (x.kids.getD 1 0)=12 then(⟨#[108,111,99,97,108,32]⟩:ByteArray)++x.text++bO ns K (x.kids.getD 0 0)
  else(⟨#[108,111,99,97,108,32]⟩:ByteArray)++x.text++bO ns K (x.kids.getD 0 0)++((⟨#[32,61,32]⟩:ByteArray)++E (x.kids.getD 1 0) d))
 else if x.kind=5 then(⟨#[102,117,110,99,116,105,111,110,32]⟩:ByteArray)++x.text++kQ ns K S (x.kids.getD 0 0) d
 else if x.kind=6 then E (x.kids.getD 0 0) d++(⟨#[32,61,32]⟩:ByteArray)++E (x.kids.getD 1 0) d
 else if x.kind=7 then E (x.kids.getD 0 0) d
 else if x.kind=8 then(if aB ns (x.kids.getD 2 0)=12 then(⟨#[105,102,32]⟩:ByteArray)++E (x.kids.getD 0 0) d++(⟨#[32,116,104,101,110,10]⟩:ByteArray)++aL ns S (x.kids.getD 1 0) (d+1)
  else(⟨#[105,102,32]⟩:ByteArray)++E (x.kids.getD 0 0) d++(⟨#[32,116,104,101,110,10]⟩:ByteArray)++aL ns S (x.kids.getD 1 0) (d+1)++(bP d++(⟨#[101,108,115,101,10]⟩:ByteArray)++aL ns S (x.kids.getD 2 0) (d+1)))
   ++bP d++(⟨#[101,110,100]⟩:ByteArray)
 else if x.kind=9 then(⟨#[119,104,105,108,101,32]⟩:ByteArray)++E (x.kids.getD 0 0) d++(⟨#[32,100,111,10]⟩:ByteArray)++aL ns S (x.kids.getD 1 0) (d+1)++bP d++(⟨#[101,110,100]⟩:ByteArray)
 else if x.kind=10 then(if aB ns (x.kids.getD 0 0)=12 then⟨#[114,101,116,117,114,110]⟩ else(⟨#[114,101,116,117,114,110,32]⟩:ByteArray)++E (x.kids.getD 0 0) d)
 else⟨#[98,114,101,97,107]⟩
end
def dz (ns:List Nd):Nat→(Int→Nat→ByteArray) × (Int→ByteArray) × (Int→Nat→ByteArray)
 |0=>(fun _ _=>⟨#[]⟩,fun _=>⟨#[]⟩,fun _ _=>⟨#[]⟩)
 |f+1=>(fun n d=>match ns[n.toNat]? with
   |some x=>aF ns (dz ns f).1 (dz ns f).2.1 (dz ns f).2.2 x d
   |none=>⟨#[]⟩,
  fun n=>match ns[n.toNat]? with
   |some x=>bW ns (dz ns f).2.1 x
   |none=>⟨#[]⟩,
  fun n d=>match ns[n.toNat]? with
   |some x=>aQ ns (dz ns f).1 (dz ns f).2.1 (dz ns f).2.2 x d
   |none=>⟨#[]⟩)
def eG (ns:List Nd) (k:Int):ByteArray:=(⟨#[99,104,97,110,110,101,108,32]⟩:ByteArray)++(eY ns k).extract 0 1++(⟨#[32,61,32]⟩:ByteArray)++gF ((eY ns k).extract 2 (eY ns k).size)++(⟨#[10]⟩:ByteArray)
def JT (ns:List Nd) (x:Nd):ByteArray:=bt (fun i=>eG ns (x.kids.getD i 0)) (x.kids.length - 1)++aL ns (dz ns ns.length).2.2 (x.kids.getD (x.kids.length - 1) 0) 0
def JS (ns:List Nd):ByteArray:=match ns[ns.length - 1]? with
 |some x=>JT ns x
 |none=>⟨#[]⟩
theorem fJ (u:ByteArray):u++(⟨#[]⟩:ByteArray)=u:=by
 show u++ByteArray.empty=u;exact ByteArray.append_empty
theorem ju (u:ByteArray):(⟨#[]⟩:ByteArray)++u=u:=by
 show ByteArray.empty++u=u;exact ByteArray.empty_append
theorem Xa (sep:ByteArray) (g:Nat→ByteArray) (i:Nat):(jt sep g i).size≤(jt sep g (i+1)).size:=by
 conv=>rhs;unfold jt
 split<;>simp only [ByteArray.size_append]<;>omega
theorem jo (sep:ByteArray) (g:Nat→ByteArray) (i:Nat):∀j,i≤j→(jt sep g i).size≤(jt sep g j).size
 |0,h=>by
  obtain rfl:i=0:=aa;exact Nat.le_refl _
 |j+1,h=>by
  by_cases e:i=j+1
  ·subst e;exact Nat.le_refl _
  ·exact Nat.le_trans (jo sep g i j aa) (Xa sep g j)
theorem Xb (g:Nat→ByteArray) (i:Nat):(bt g i).size≤(bt g (i+1)).size:=by
 conv=>rhs;unfold bt
 simp only [ByteArray.size_append];omega
theorem tB (g:Nat→ByteArray) (i:Nat):∀j,i≤j→(bt g i).size≤(bt g j).size
 |0,h=>by
  obtain rfl:i=0:=aa;exact Nat.le_refl _
 |j+1,h=>by
  by_cases e:i=j+1
  ·subst e;exact Nat.le_refl _
  ·exact Nat.le_trans (tB g i j aa) (Xb g j)
def sumTo (h:Nat→Nat):Nat→Nat
 |0=>0
 |i+1=>sumTo h i+h i
theorem mo (h:Nat→Nat):∀m,sumTo (fun i=>h (i+1)) m+h 0=sumTo h (m+1)
 |0=>by simp [sumTo]
 |m+1=>by
  have:=mo h m
  conv=>lhs;unfold sumTo
  conv=>rhs;unfold sumTo
  omega
theorem vM (f:Int→Nat):∀(ks:List Int),sumTo (fun i=>f (ks.getD i 0)) ks.length=(ks.map f).sum
 |[]=>rfl
 |a::l=>by
  have h:=mo (fun i=>f ((a::l).getD i 0)) l.length;have ih:=vM f l;show sumTo (fun i=>f ((a::l).getD i 0)) (l.length+1)=_;rw [←h,List.map_cons,List.sum_cons,←ih];exact Nat.add_comm _ _
theorem kA (h:Nat→Nat) (i:Nat):∀j,i≤j→sumTo h i≤sumTo h j
 |0,e=>by
  obtain rfl:i=0:=aa;exact Nat.le_refl _
 |j+1,e=>by
  by_cases e2:i=j+1
  ·subst e2;exact Nat.le_refl _
  ·exact Nat.le_trans (kA h i j aa) (Nat.le_add_right _ _)
theorem nu (h:Nat→Nat) {i:Nat}:∀{m:Nat},i<m→h i≤sumTo h m
 |0,e=>by omega
 |m+1,e=>by
  unfold sumTo;by_cases e2:i=m
  ·subst e2;omega
  ·have:=nu h (i:=i) (m:=m) aa;omega
theorem nw (sep:ByteArray) (g:Nat→ByteArray) (c:Nat→Nat):∀m,(∀i,i<m→(g i).size+sep.size≤c i)→(jt sep g m).size≤sumTo c m
 |0,_=>Nat.le_refl _
 |m+1,h=>by
  have h1:=nw sep g c m fun i hi=>h i aa
  have h2:=h m aa;unfold jt sumTo;split<;>simp only [ByteArray.size_append]<;>omega
theorem yF (g:Nat→ByteArray) (c:Nat→Nat):∀m,(∀i,i<m→(g i).size≤c i)→(bt g m).size≤sumTo c m
 |0,_=>Nat.le_refl _
 |m+1,h=>by
  have h1:=yF g c m fun i hi=>h i aa
  have h2:=h m aa;unfold bt sumTo;simp only [ByteArray.size_append];omega
theorem nc (s:ByteArray):(gF s).size≤s.size+20:=by
 unfold gF;split
 ·simp only [ByteArray.size,List.size_toArray,List.length_cons,List.length_nil];omega
 ·omega
theorem Ds (s:ByteArray):(iL s).size≤4*s.size+2:=by
 rw [←tZ,ByteArray.size_append];have:=qE s s.size;have e:(⟨#[34]⟩:ByteArray).size=1:=rfl;omega
theorem lM (s:ByteArray):(og s).size=s.size+2:=by
 unfold og;simp only [ByteArray.size_append];have e:(⟨#[40]⟩:ByteArray).size=1:=rfl;have e2:(⟨#[41]⟩:ByteArray).size=1:=rfl;omega
end Go.Proofs.YtjchnliaglecoaaGreatDoor
/- A part of the proof. Conditions: none. -/
set_option maxRecDepth 100000
set_option maxHeartbeats 8000000
namespace Go.Proofs.YtjchnliaglecoaaGreatDoor
open Go Go.RowKit Go.Nodes
theorem vI {f:List UInt8} {ks:List Nat} (h:ep f ks=true) (hd:f≠[46]):jM (ks.length - (f.length - 2*f.count 42)) f ks=true:=by
 unfold ep at h;rw [if_neg hd] at h;split at h
 ·cases h
 ·split at h
  ·cases h
  ·exact h
theorem jR {ns:List Nd} {x:Nd} {c:UInt8} {f:List UInt8} (h:ep (c::f) (bJ ns x.kids)=true) (h1:c≠42) (h2:c≠46) (h3:f.head?≠some 42) (h0:0<x.kids.length):nG (aB ns (x.kids.getD 0 0)).toNat c.toNat=true:=by
 have hr:=vI h (fun e=>h2 (by cases e;rfl));generalize (bJ ns x.kids).length - _=sp at hr;rw [gZ _ _ _ _ h1 h2 h3,Bool.and_eq_true] at hr
 match hk:x.kids with
 |[]=>rw [hk] at h0;simp at h0
 |k::ks=>
  rw [hk] at hr;have:=hr.1;simpa [bJ] using this
theorem kr {ns:List Nd} {x:Nd} {c:UInt8} {f:List UInt8} (h:ep (c::42::f) (bJ ns x.kids)=true) (h1:c≠42) (h2:c≠46) {i:Nat} (hi:i<x.kids.length - ((c::42::f).length - 2*(c::42::f).count 42)):nG (aB ns (x.kids.getD i 0)).toNat c.toNat=true:=by
 have hr:=vI h (fun e=>by cases e);have hl:(bJ ns x.kids).length=x.kids.length:=by simp [bJ]
 rw [hl] at hr;generalize hsp:x.kids.length - ((c::42::f).length - 2*(c::42::f).count 42)=sp at hr hi;unfold jM at hr;rw [if_neg (by simp [h1,h2]),show(42::f).head?=some 42 from rfl,if_pos rfl,Bool.and_eq_true] at hr;have h4:=List.all_eq_true.1 hr.1 ((bJ ns x.kids).getD i 0) (by
  have lq:i<(bJ ns x.kids).length:=by rw [hl];omega
  rw [List.getD,List.getElem?_eq_getElem lq];exact List.mem_take_iff_getElem.2 ⟨i,by omega,rfl⟩)
 have e:(bJ ns x.kids).getD i 0=(aB ns (x.kids.getD i 0)).toNat:=by
  have lq:i<x.kids.length:=aa;simp [bJ,List.getD,List.getElem?_eq_getElem lq]
 rw [e] at h4;exact h4
theorem IX {ns:List Nd} {x:Nd} {f:List UInt8} (h:ep f (bJ ns x.kids)=true) (hd:f≠[46]):f.length - 2*f.count 42≤x.kids.length:=by
 have:=Cj h hd
 rwa [show(bJ ns x.kids).length=x.kids.length by simp [bJ]] at this
def uE (k:Nat):Nat:=[0,1,0,0,2,1,2,1,3,2,1,0,0,0,0,0,0,0,1,2,1,0,2,1,0,1,1,2,1,2,2,0,0,1,1,2,1].getD k 0
theorem IY:((List.range 37).all fun k=>bY k==[46]||decide (uE k≤(bY k).length - 2*(bY k).count 42))=true:=by decide+kernel
theorem IZ:((List.range 37).all fun k=>bY k !=[46]||uE k==0)=true:=by decide+kernel
theorem bM {ns:List Nd} {i:Nat} {x:Nd} (h:Nu ns i x):uE x.kind.toNat≤x.kids.length:=by
 have hm:x.kind.toNat∈List.range 37:=by have:=h.k1;have:=h.yU;simp;omega
 have h1:=List.all_eq_true.1 IY _ hm;have h2:=List.all_eq_true.1 IZ _ hm;have h3:=h.fits;generalize x.kind.toNat=k at*;by_cases e:bY k=[46]
 ·rw [e] at h2;simp at h2;omega
 ·have h4:=IX h3 e;simp [e] at h1;omega
def C1 (ns:List Nd):Prop:=ns.length≤1000∧∀x∈ns,x.kids.length≤4000∧x.text.size≤4000
structure Tr (ns:List Nd):Prop where
 ahead:dK ns
 all:lu ns ns.length
 few:C1 ns
 cap:iN ns
theorem cE {ns:List Nd} (h:Tr ns) {n:Nat} {x:Nd} (hx:ns[n]?=some x) {j:Nat} (hj:j<x.kids.length):0≤x.kids.getD j 0∧x.kids.getD j 0<n:=by
 have:=(h.all n x (List.getElem?_eq_some_iff.1 hx).1 hx).kids (x.kids.getD j 0) (by simp [List.getD,List.getElem?_eq_getElem hj]);exact this
theorem iH {ns:List Nd} {n:Int} {x:Nd} (hx:ns[n.toNat]?=some x):bp ns n=x.kids:=by unfold bp;rw [hx]
theorem nD (ns:List Nd) (n:Int):bp ns n=jG ns n:=by
 unfold bp jG;cases ns[n.toNat]?<;>rfl
def cs (ns:List Nd) (k:Int):Nat:=40000*wt ns k.toNat
theorem aal {ns:List Nd} (h:dK ns) (n:Int) (h0:0≤n):cs ns n=40000+((jG ns n).map (cs ns)).sum:=by
 unfold cs;rw [YE h,show((n.toNat:Nat):Int)=n by omega];have:∀l:List Int,(l.map fun k=>40000*wt ns k.toNat).sum=40000*(l.map fun k=>wt ns k.toNat).sum:=by
  intro l
  induction l with
  |nil=>rfl
  |cons a l ih=>simp only [List.map_cons,List.sum_cons,ih];omega
 rw [this];omega
theorem yX {ns:List Nd} (h:dK ns) (n:Int) (h0:0≤n):cs ns n=40000+sumTo (fun i=>cs ns ((bp ns n).getD i 0)) (bp ns n).length:=by
 rw [aal h n h0,vM,nD]
theorem C3 {ns:List Nd} (h:dK ns) (n:Int) (h0:0≤n):40000≤cs ns n:=by rw [aal h n h0];omega
theorem lS {ns:List Nd} (h:Tr ns) (n:Int):(eY ns n).size≤4000:=by
 unfold eY;split
 ·rename_i x hx;exact(h.few.2 x (List.mem_of_getElem? hx)).2
 ·exact Nat.zero_le _
section
variable {ns:List Nd} (ht:Tr ns) {E:Int→Nat→ByteArray} {K:Int→ByteArray} {S:Int→Nat→ByteArray} {N:Nat}
 (hE:∀(k:Int) (d:Nat),0≤k→k<N→(d:Int)+k≤2000→(E k d).size+5000≤cs ns k)
 (hK:∀(k:Int),0≤k→k<N→(K k).size+5000≤cs ns k)
 (hS:∀(k:Int) (d:Nat),0≤k→k<N→(d:Int)+k≤2000→(S k d).size+5000≤cs ns k)
include ht hE in
theorem oI (k r:Int) (d:Nat) (h0:0≤k) (h1:k<N) (hd:(d:Int)+k≤2000):(bB ns E k r d).size+4998≤cs ns k:=by
 have zq:=ht;clear zq;have zq:=hE;clear zq
 have:=hE k d h0 h1 hd;unfold bB;split
 ·rw [lM];omega
 ·omega
include ht hE in
theorem qN (k:Int) (d:Nat) (h0:0≤k) (h1:k<N) (hd:(d:Int)+k≤2000):(dR ns E k d).size+4998≤cs ns k:=by
 have zq:=ht;clear zq;have zq:=hE;clear zq
 have:=hE k d h0 h1 hd;unfold dR;split
 ·omega
 ·rw [lM];omega
include ht hK in
theorem oH (k:Int) (h0:0≤k) (h1:k<N):(bO ns K k).size+4998≤cs ns k:=by
 have zq:=ht;clear zq;have zq:=hK;clear zq
 have:=hK k h0 h1;unfold bO;split
 ·have:=C3 ht.ahead k h0;have e:(⟨#[]⟩:ByteArray).size=0:=rfl;rw [e];omega
 ·rw [ByteArray.size_append];have e:(⟨#[58,32]⟩:ByteArray).size=2:=rfl;omega
include ht hE in
theorem xB (ks:List Int) (d:Nat) (hk:∀k∈ks,0≤k∧k<N∧(d:Int)+k≤2000):(dL E ks d).size≤sumTo (fun i=>cs ns (ks.getD i 0)) ks.length:=by
 have zq:=ht;clear zq;have zq:=hE;clear zq
 unfold dL;refine nw _ _ _ _ fun i hi=>?_
 have hm:ks.getD i 0∈ks:=by simp [List.getD,List.getElem?_eq_getElem hi]
 obtain⟨h0,h1,h2⟩:=hk _ hm;have:=hE _ d h0 h1 h2;exact za
include ht hS in
theorem ou (k:Int) (d:Nat) (h0:0≤k) (h1:k<N) (hd:(d:Int)+k≤2000):(aL ns S k d).size+40000≤cs ns k:=by
 have zq:=ht;clear zq;have zq:=hS;clear zq
 rw [yX ht.ahead k h0];have:(aL ns S k d).size≤sumTo (fun i=>cs ns ((bp ns k).getD i 0)) (bp ns k).length:=by
  unfold aL;refine yF _ _ _ fun i hi=>?_
  have hq:0≤(bp ns k).getD i 0∧(bp ns k).getD i 0<k:=by
   refine ht.ahead k h0 _ ?_;rw [←nD];simp [List.getD,List.getElem?_eq_getElem hi]
  have:=hS _ d hq.1 aa aa;unfold eM;simp only [ByteArray.size_append];have e:(⟨#[10]⟩:ByteArray).size=1:=rfl;have e2:=gM d;omega
 omega
include ht hK in
theorem Dt (k:Int) (h0:0≤k) (h1:k<N) (hl:0<(bp ns k).length):(cO ns K k).size+5000≤cs ns k:=by
 have zq:=ht;clear zq;have zq:=hK;clear zq
 rw [yX ht.ahead k h0];have hq:0≤(bp ns k).getD 0 0∧(bp ns k).getD 0 0<k:=by
  refine ht.ahead k h0 _ ?_;rw [←nD];simp [List.getD,List.getElem?_eq_getElem hl]
 have:=hK _ hq.1 aa;have h3:=nu (fun i=>cs ns ((bp ns k).getD i 0)) hl;have h4:=lS ht k;unfold cO;simp only [ByteArray.size_append] at h3 ⊢;have e:(⟨#[58,32]⟩:ByteArray).size=2:=rfl;omega
include ht hK in
theorem GK (k:Int) (h0:0≤k) (h1:k<N) (hl:0<(bp ns k).length):(eC ns K k).size+5000≤cs ns k:=by
 have zq:=ht;clear zq;have zq:=hK;clear zq
 rw [yX ht.ahead k h0];have hq:0≤(bp ns k).getD 0 0∧(bp ns k).getD 0 0<k:=by
  refine ht.ahead k h0 _ ?_;rw [←nD];simp [List.getD,List.getElem?_eq_getElem hl]
 have:=oH ht hK _ hq.1 aa;have h3:=nu (fun i=>cs ns ((bp ns k).getD i 0)) hl;have h4:=lS ht k;unfold eC;simp only [ByteArray.size_append] at h3 ⊢;omega
end
end Go.Proofs.YtjchnliaglecoaaGreatDoor
/- A part of the proof. Conditions: none. -/
set_option maxRecDepth 100000
set_option maxHeartbeats 8000000
namespace Go.Proofs.YtjchnliaglecoaaGreatDoor
open Go Go.RowKit Go.Nodes
section
variable {ns:List Nd} (ht:Tr ns) {E:Int→Nat→ByteArray} {K:Int→ByteArray} {S:Int→Nat→ByteArray} {m:Nat} (hm:m<ns.length)
 (hE:∀(k:Int) (d:Nat),0≤k→k<m→(d:Int)+k≤2000→(E k d).size+5000≤cs ns k)
 (hK:∀(k:Int),0≤k→k<m→(K k).size+5000≤cs ns k)
 (hS:∀(k:Int) (d:Nat),0≤k→k<m→(d:Int)+k≤2000→(S k d).size+5000≤cs ns k)
include ht hm
theorem rM:cs ns (m:Int)=40000+sumTo (fun i=>cs ns (ns[m].kids.getD i 0)) ns[m].kids.length:=by
 have zq:=ht;clear zq;have zq:=hm;clear zq
 rw [yX ht.ahead (m:Int) aa,iH KZ]
theorem ku {i:Nat} (hi:i<ns[m].kids.length):0≤ns[m].kids.getD i 0∧ns[m].kids.getD i 0<m:=have _:=ht;have _:=hm;cE ht (List.getElem?_eq_getElem hm) hi
theorem eo {k:Int} (hk:ns[m].kind=k):uE k.toNat≤ns[m].kids.length:=by
 have zq:=ht;clear zq;have zq:=hm;clear zq
 have:=bM (ht.all m ns[m] hm (List.getElem?_eq_getElem hm))
 rwa [hk] at this
omit hm in
theorem Fm {k:Int} (h0:0≤k) (h1:k<ns.length) {c:Nat} (hc:(aB ns k).toNat=c) (h2:0<uE c):0<(bp ns k).length:=by
 have zq:=ht;clear zq
 obtain⟨z,rfl⟩:∃z:Nat,k=z:=⟨k.toNat,by omega⟩;have hz:z<ns.length:=aa;have h3:=bM (ht.all z ns[z] hz (List.getElem?_eq_getElem hz));rw [aY (List.getElem?_eq_getElem hz)] at hc;rw [hc] at h3;rw [iH (by rw [Int.toNat_natCast];exact List.getElem?_eq_getElem hz)];omega
theorem Ba (h:0<ns[m].kids.length):cs ns (ns[m].kids.getD 0 0)+40000≤cs ns (m:Int):=by
 have zq:=ht;clear zq;have zq:=hm;clear zq
 rw [rM ht hm];have h1:cs ns (ns[m].kids.getD 0 0)≤sumTo (fun i=>cs ns (ns[m].kids.getD i 0)) ns[m].kids.length:=nu (fun i=>cs ns (ns[m].kids.getD i 0)) h;omega
theorem K0 (h:1<ns[m].kids.length):cs ns (ns[m].kids.getD 0 0)+cs ns (ns[m].kids.getD 1 0)+40000≤cs ns (m:Int):=by
 have zq:=ht;clear zq;have zq:=hm;clear zq
 rw [rM ht hm];have:=kA (fun i=>cs ns (ns[m].kids.getD i 0)) 2 ns[m].kids.length h;simp only [sumTo] at this;omega
theorem ai9 (h:2<ns[m].kids.length):cs ns (ns[m].kids.getD 0 0)+cs ns (ns[m].kids.getD 1 0)+cs ns (ns[m].kids.getD 2 0)+40000≤cs ns (m:Int):=by
 have zq:=ht;clear zq;have zq:=hm;clear zq
 rw [rM ht hm];have:=kA (fun i=>cs ns (ns[m].kids.getD i 0)) 3 ns[m].kids.length h;simp only [sumTo] at this;omega
theorem yY:ns[m].text.size≤4000:=have _:=ht;have _:=hm;(ht.few.2 ns[m] (List.getElem_mem hm)).2
include hK hS in
theorem xA (d:Nat) (hd:(d:Int)+m≤2000) (hk:ns[m].kind=22):(fG ns K S ns[m] d).size+10000≤cs ns (m:Int):=by
 have zq:=ht;clear zq;have zq:=hm;clear zq;have zq:=hK;clear zq;have zq:=hS;clear zq
 have h2:2≤ns[m].kids.length:=eo ht hm hk;have hv:=ht.all m ns[m] hm (List.getElem?_eq_getElem hm);have hf:=hv.fits;rw [hk] at hf;rw [rM ht hm];obtain⟨n2,yZ⟩:∃n2,ns[m].kids.length=n2+2:=⟨ns[m].kids.length - 2,by omega⟩;have hq:=fun i (hi:i<ns[m].kids.length)=>ku ht hm hi
 have hj:(jt ⟨#[44,32]⟩ (fun i=>eC ns K (ns[m].kids.getD i 0)) n2).size≤sumTo (fun i=>cs ns (ns[m].kids.getD i 0)) n2:=by
  refine nw _ _ _ _ fun i hi=>?_
  obtain⟨h0,h1⟩:=hq i aa;have AO:=kr (c:=80) (f:=[116,98]) hf ai ai (i:=i) (by show i<ns[m].kids.length - 2;omega);have h23:(aB ns (ns[m].kids.getD i 0)).toNat=23:=Nat.eq_of_beq_eq_true AO;have:=GK ht hK _ h0 h1 (Fm ht h0 aa h23 ai);exact za
 have hta:=oH ht hK _ (hq n2 aa).1 (hq n2 aa).2;have QH:=ou ht hS (ns[m].kids.getD (n2+1) 0) (d+1) (hq (n2+1) aa).1 (hq (n2+1) aa).2 (by have:=(hq (n2+1) aa).2;omega);have hp:=gM d;unfold fG;have hs2:sumTo (fun i=>cs ns (ns[m].kids.getD i 0)) (n2+2)=sumTo (fun i=>cs ns (ns[m].kids.getD i 0)) n2+cs ns (ns[m].kids.getD n2 0)+cs ns (ns[m].kids.getD (n2+1) 0):=rfl;rw [yZ,hs2,Nat.add_sub_cancel,show n2+2 - 1=n2+1 from rfl]
 repeat rw [ByteArray.size_append]
 have e1:(⟨#[40]⟩:ByteArray).size=1:=rfl;have e2:(⟨#[41]⟩:ByteArray).size=1:=rfl;have e3:(⟨#[10]⟩:ByteArray).size=1:=rfl;have e4:(⟨#[101,110,100]⟩:ByteArray).size=3:=rfl;rw [e1,e2,e3,e4];omega
include hE hK hS in
theorem GL (d:Nat) (hd:(d:Int)+m≤2000):(aF ns E K S ns[m] d).size+5000≤cs ns (m:Int):=by
 have zq:=ht;clear zq;have zq:=hm;clear zq;have zq:=hE;clear zq;have zq:=hK;clear zq;have zq:=hS;clear zq
 have ht0:=yY ht hm;have hq:=fun i (hi:i<ns[m].kids.length)=>ku ht hm hi
 have hc0:=rM ht hm;have ala:(dL E ns[m].kids d).size+40000≤cs ns (m:Int):=by
  have:=xB ht hE ns[m].kids d (fun k hk=>by have h:=(ht.all m ns[m] hm (List.getElem?_eq_getElem hm)).kids k hk;exact⟨h.1,h.2,by omega⟩);omega
 unfold aF;by_cases hk:ns[m].kind=13
 ·rw [if_pos hk];have e:(⟨#[110,105,108]⟩:ByteArray).size=3:=rfl;rw [e];omega
 rw [if_neg hk];by_cases hk:ns[m].kind=16
 ·rw [if_pos hk];have:=Ds ns[m].text;omega
 rw [if_neg hk];by_cases hk:ns[m].kind=18
 ·rw [if_pos hk];have hl:0<ns[m].kids.length:=eo ht hm hk;have h1:=qN ht hE _ d (hq 0 hl).1 (hq 0 hl).2 Bb;have h2:=Ba ht hm hl;simp only [ByteArray.size_append];have e:(⟨#[46]⟩:ByteArray).size=1:=rfl;rw [e];omega
 rw [if_neg hk];by_cases hk:ns[m].kind=19
 ·rw [if_pos hk];have hl:1<ns[m].kids.length:=eo ht hm hk;have h1:=qN ht hE _ d (hq 0 aa).1 (hq 0 aa).2 (by have:=(hq 0 aa).2;omega);have h3:=hE _ d (hq 1 hl).1 (hq 1 hl).2 (by have:=(hq 1 hl).2;omega);have h2:=K0 ht hm hl;simp only [ByteArray.size_append];have e:(⟨#[91]⟩:ByteArray).size=1:=rfl;have e2:(⟨#[93]⟩:ByteArray).size=1:=rfl;rw [e,e2];omega
 rw [if_neg hk];by_cases hk:ns[m].kind=20
 ·rw [if_pos hk];have hl:0<ns[m].kids.length:=eo ht hm hk;have h1:=qN ht hE _ d (hq 0 hl).1 (hq 0 hl).2 Bb;have h3:=xB ht hE (ns[m].kids.drop 1) d (fun k hk=>by have h:=(ht.all m ns[m] hm (List.getElem?_eq_getElem hm)).kids k (List.mem_of_mem_drop hk);exact⟨h.1,h.2,by omega⟩);have h4:=mo (fun i=>cs ns (ns[m].kids.getD i 0)) (ns[m].kids.length - 1);have e5:(fun i=>cs ns ((ns[m].kids.drop 1).getD i 0))=fun i=>cs ns (ns[m].kids.getD (i+1) 0):=by
   funext i;simp [List.getD,List.getElem?_drop,Nat.add_comm]
  rw [e5,List.length_drop] at h3;rw [show ns[m].kids.length - 1+1=ns[m].kids.length by omega] at h4;exact K3
 rw [if_neg hk];by_cases hk:ns[m].kind=21
 ·rw [if_pos hk];exact K3
 rw [if_neg hk];by_cases hk:ns[m].kind=22
 ·rw [if_pos hk];have:=xA ht hm hK hS d hd hk;simp only [ByteArray.size_append];have e:(⟨#[102,117,110,99,116,105,111,110]⟩:ByteArray).size=8:=rfl;rw [e];omega
 rw [if_neg hk];by_cases hk:ns[m].kind=24
 ·rw [if_pos hk];exact K4
 rw [if_neg hk];by_cases hk:ns[m].kind=25
 ·rw [if_pos hk];have hl:0<ns[m].kids.length:=eo ht hm hk;have h1:=hE _ d (hq 0 hl).1 (hq 0 hl).2 Bb;have h2:=Ba ht hm hl;simp only [ByteArray.size_append];have e:(⟨#[32,61,32]⟩:ByteArray).size=3:=rfl;rw [e];omega
 rw [if_neg hk];by_cases hk:ns[m].kind=26
 ·rw [if_pos hk];have hl:0<ns[m].kids.length:=eo ht hm hk;have h1:=hE _ d (hq 0 hl).1 (hq 0 hl).2 Bb;have h2:=Ba ht hm hl;omega
 rw [if_neg hk];by_cases hk:ns[m].kind=28
 ·rw [if_pos hk];have hl:0<ns[m].kids.length:=eo ht hm hk;have h1:=oI ht hE _ 7 d (hq 0 hl).1 (hq 0 hl).2 Bb;have h2:=Ba ht hm hl;have e:(⟨#[110,111,116,32]⟩:ByteArray).size=4:=rfl;have e2:(⟨#[45,32]⟩:ByteArray).size=2:=rfl;unfold K5;split
  ·rw [ByteArray.size_append,e];omega
  split
  ·rw [ByteArray.size_append,e2];omega
  ·rw [ByteArray.size_append];omega
 rw [if_neg hk];by_cases hk:ns[m].kind=27∨ns[m].kind=29∨ns[m].kind=30
 ·rw [if_pos hk];have hl:1<ns[m].kids.length:=by
   rcases hk with hk|hk|hk
   ·exact eo ht hm hk
   ·exact eo ht hm hk
   ·exact eo ht hm hk
  have h1:=oI ht hE _ (aH ns[m].kind ns[m].text.toList) d (hq 0 aa).1 (hq 0 aa).2 (by have:=(hq 0 aa).2;omega);have h3:=oI ht hE _ (aH ns[m].kind ns[m].text.toList+1) d (hq 1 hl).1 (hq 1 hl).2 (by have:=(hq 1 hl).2;omega);have h2:=K0 ht hm hl;have e:(⟨#[32]⟩:ByteArray).size=1:=rfl;have ho:(opT ns[m]).size≤4000:=by
   unfold opT;split
   ·exact Nat.le_trans (show(⟨#[97,110,100]⟩:ByteArray).size≤3 from Nat.le_refl _) ai
   split
   ·exact Nat.le_trans (show(⟨#[111,114]⟩:ByteArray).size≤2 from Nat.le_refl _) ai
   ·exact ht0
  unfold mq;simp only [ByteArray.size_append];rw [e];omega
 rw [if_neg hk];omega
include hK in
theorem GM:(bW ns K ns[m]).size+5000≤cs ns (m:Int):=by
 have zq:=ht;clear zq;have zq:=hm;clear zq;have zq:=hK;clear zq
 have ht0:=yY ht hm;have hq:=fun i (hi:i<ns[m].kids.length)=>ku ht hm hi
 have hc0:=rM ht hm;have hv:=ht.all m ns[m] hm (List.getElem?_eq_getElem hm);unfold bW;split
 ·rename_i hk;have hf:=hv.fits;rw [hk] at hf;have hj:(jt ⟨#[44,32]⟩ (fun i=>cO ns K (ns[m].kids.getD i 0)) ns[m].kids.length).size≤sumTo (fun i=>cs ns (ns[m].kids.getD i 0)) ns[m].kids.length:=by
   refine nw _ _ _ _ fun i hi=>?_
   obtain⟨h0,h1⟩:=hq i hi;have AO:=kr (c:=70) (f:=[]) hf ai ai (i:=i) (by show i<ns[m].kids.length - 0;omega);have h33:(aB ns (ns[m].kids.getD i 0)).toNat=33:=Nat.eq_of_beq_eq_true AO;have:=Dt ht hK _ h0 h1 (Fm ht h0 aa h33 ai);exact za
  exact K4
 split
 ·rename_i hk;have hl:1≤ns[m].kids.length:=eo ht hm hk;obtain⟨n1,xC⟩:∃n1,ns[m].kids.length=n1+1:=⟨ns[m].kids.length - 1,by omega⟩;have hj:(jt ⟨#[44,32]⟩ (fun i=>K (ns[m].kids.getD i 0)) n1).size≤sumTo (fun i=>cs ns (ns[m].kids.getD i 0)) n1:=by
   refine nw _ _ _ _ fun i hi=>?_
   obtain⟨h0,h1⟩:=hq i aa;have:=hK _ h0 h1;exact za
  have h3:=hK _ (hq n1 aa).1 (hq n1 aa).2;rw [xC] at hc0 ⊢;simp only [Nat.add_sub_cancel,ByteArray.size_append];simp only [sumTo] at hc0;have e:(⟨#[40]⟩:ByteArray).size=1:=rfl;have e2:(⟨#[41,32,45,62,32]⟩:ByteArray).size=5:=rfl;rw [e,e2];omega
 split
 ·have hj:(jt ⟨#[32,124,32]⟩ (fun i=>K (ns[m].kids.getD i 0)) ns[m].kids.length).size≤sumTo (fun i=>cs ns (ns[m].kids.getD i 0)) ns[m].kids.length:=by
   refine nw _ _ _ _ fun i hi=>?_
   obtain⟨h0,h1⟩:=hq i hi;have:=hK _ h0 h1;have e:(⟨#[32,124,32]⟩:ByteArray).size=3:=rfl;omega
  omega
 split
 ·rename_i hk;have hl:0<ns[m].kids.length:=eo ht hm hk;have h1:=hK _ (hq 0 hl).1 (hq 0 hl).2;have h2:=Ba ht hm hl;have h3:=nc ns[m].text;simp only [ByteArray.size_append];have e:(⟨#[32,64,32]⟩:ByteArray).size=3:=rfl;rw [e];omega
 ·omega
include hE hK hS in
theorem GN (d:Nat) (hd:(d:Int)+m≤2000):(aQ ns E K S ns[m] d).size+5000≤cs ns (m:Int):=by
 have zq:=ht;clear zq;have zq:=hm;clear zq;have zq:=hE;clear zq;have zq:=hK;clear zq;have zq:=hS;clear zq
 have ht0:=yY ht hm;have hq:=fun i (hi:i<ns[m].kids.length)=>ku ht hm hi
 have hc0:=rM ht hm;have hv:=ht.all m ns[m] hm (List.getElem?_eq_getElem hm);have hp:=gM d;have hEk:=fun i (hi:i<ns[m].kids.length)=>hE _ d (hq i hi).1 (hq i hi).2 uF
 have hBk:=fun i (hi:i<ns[m].kids.length)=>ou ht hS (ns[m].kids.getD i 0) (d+1) (hq i hi).1 (hq i hi).2 uF
 unfold aQ;split
 ·rename_i hk;have hl:1<ns[m].kids.length:=eo ht hm hk;have h1:=oH ht hK _ (hq 0 aa).1 (hq 0 aa).2;have h2:=K0 ht hm hl;have h3:=hEk 1 hl;have e:(⟨#[108,111,99,97,108,32]⟩:ByteArray).size=6:=rfl;have e2:(⟨#[32,61,32]⟩:ByteArray).size=3:=rfl;split
  ·simp only [ByteArray.size_append];rw [e];omega
  ·simp only [ByteArray.size_append];rw [e,e2];omega
 split
 ·rename_i hk;have hf:=hv.fits;rw [hk] at hf;have hl:0<ns[m].kids.length:=eo ht hm hk;have h2:=Ba ht hm hl;obtain⟨h0,h1⟩:=hq 0 hl;obtain⟨z,hz⟩:∃z:Nat,ns[m].kids.getD 0 0=z:=⟨(ns[m].kids.getD 0 0).toNat,by omega⟩;have hzl:z<ns.length:=aa;have Du:ns[z].kind=22:=by
   have h:=jR (c:=102) (f:=[]) hf ai ai ai hl;exact K6
  have Dv:kQ ns K S (ns[m].kids.getD 0 0) d=fG ns K S ns[z] d:=by unfold kQ;rw [hz,Int.toNat_natCast,List.getElem?_eq_getElem hzl]
  have h3:=xA (K:=K) (S:=S) ht hzl (fun k a b=>hK k a aa) (fun k d a b c=>hS k d a aa c) d aa Du;rw [hz] at h2 Dv;simp only [ByteArray.size_append];have e:(⟨#[102,117,110,99,116,105,111,110,32]⟩:ByteArray).size=9:=rfl;rw [e,hz,Dv];omega
 split
 ·rename_i hk;have hl:1<ns[m].kids.length:=eo ht hm hk;have h2:=K0 ht hm hl;have h1:=hEk 0 aa;have h3:=hEk 1 hl;simp only [ByteArray.size_append];have e2:(⟨#[32,61,32]⟩:ByteArray).size=3:=rfl;rw [e2];omega
 split
 ·rename_i hk;have hl:0<ns[m].kids.length:=eo ht hm hk;have h2:=Ba ht hm hl;have h1:=hEk 0 hl;omega
 split
 ·rename_i hk;have hl:2<ns[m].kids.length:=eo ht hm hk;have h2:=ai9 ht hm hl;have h1:=hEk 0 aa;have h3:=hBk 1 aa;have h4:=hBk 2 hl;have e:(⟨#[105,102,32]⟩:ByteArray).size=3:=rfl;have e2:(⟨#[32,116,104,101,110,10]⟩:ByteArray).size=6:=rfl;have e3:(⟨#[101,108,115,101,10]⟩:ByteArray).size=5:=rfl;have e4:(⟨#[101,110,100]⟩:ByteArray).size=3:=rfl;simp only [ByteArray.size_append];split
  ·simp only [ByteArray.size_append];rw [e,e2,e4];omega
  ·simp only [ByteArray.size_append];rw [e,e2,e3,e4];omega
 split
 ·rename_i hk;have hl:1<ns[m].kids.length:=eo ht hm hk;have h2:=K0 ht hm hl;have h1:=hEk 0 aa;have h3:=hBk 1 hl;have e:(⟨#[119,104,105,108,101,32]⟩:ByteArray).size=6:=rfl;have e2:(⟨#[32,100,111,10]⟩:ByteArray).size=4:=rfl;have e4:(⟨#[101,110,100]⟩:ByteArray).size=3:=rfl;simp only [ByteArray.size_append];rw [e,e2,e4];omega
 split
 ·rename_i hk;have hl:0<ns[m].kids.length:=eo ht hm hk;have h2:=Ba ht hm hl;have h1:=hEk 0 hl;have e:(⟨#[114,101,116,117,114,110]⟩:ByteArray).size=6:=rfl;have e2:(⟨#[114,101,116,117,114,110,32]⟩:ByteArray).size=7:=rfl;split
  ·rw [e];omega
  ·rw [ByteArray.size_append,e2];omega
 ·have e:(⟨#[98,114,101,97,107]⟩:ByteArray).size=5:=rfl;rw [e];omega
end
theorem AP {ns:List Nd} (ht:Tr ns):∀f:Nat,(∀(k:Int) (d:Nat),0≤k→(d:Int)+k≤2000→((dz ns f).1 k d).size+5000≤cs ns k)∧(∀(k:Int),0≤k→((dz ns f).2.1 k).size+5000≤cs ns k)∧(∀(k:Int) (d:Nat),0≤k→(d:Int)+k≤2000→((dz ns f).2.2 k d).size+5000≤cs ns k)
 |0=>by
  have h:∀k:Int,0≤k→(⟨#[]⟩:ByteArray).size+5000≤cs ns k:=fun k h0=>by
   exact K7
  exact⟨fun k d h0 _=>h k h0,fun k h0=>h k h0,fun k d h0 _=>h k h0⟩
 |f+1=>by
  obtain⟨h1,h2,h3⟩:=AP ht f;have h:∀k:Int,0≤k→(⟨#[]⟩:ByteArray).size+5000≤cs ns k:=fun k h0=>by
   exact K7
  refine⟨fun k d h0 hd=>?_,fun k h0=>?_,fun k d h0 hd=>?_⟩
  all_goals obtain⟨m,rfl⟩:∃m:Nat,k=m:=⟨k.toNat,by omega⟩
  ·show(match ns[(m:Int).toNat]? with|some x=>aF ns _ _ _ x d|none=>_).size+5000≤_;rw [Int.toNat_natCast];by_cases hm:m<ns.length
   ·rw [List.getElem?_eq_getElem hm];exact GL ht hm (fun k d a b c=>h1 k d a c) (fun k a b=>h2 k a) (fun k d a b c=>h3 k d a c) d hd
   ·exact Dw
  ·show(match ns[(m:Int).toNat]? with|some x=>bW ns _ x|none=>_).size+5000≤_;rw [Int.toNat_natCast];by_cases hm:m<ns.length
   ·rw [List.getElem?_eq_getElem hm];exact GM ht hm (fun k a b=>h2 k a)
   ·exact Dw
  ·show(match ns[(m:Int).toNat]? with|some x=>aQ ns _ _ _ x d|none=>_).size+5000≤_;rw [Int.toNat_natCast];by_cases hm:m<ns.length
   ·rw [List.getElem?_eq_getElem hm];exact GN ht hm (fun k d a b c=>h1 k d a c) (fun k a b=>h2 k a) (fun k d a b c=>h3 k d a c) d hd
   ·exact Dw
end Go.Proofs.YtjchnliaglecoaaGreatDoor