/- A part of the proof. Conditions: none. -/
import Derived.Test.YtjchnliaglecoaaGreatDoorZz
import Derived.Test.YtjchnliaglecoaaGreatDoorMoX
import Derived.Test.YtjchnliaglecoaaGreatDoorSvX
import Derived.Laws.AppendOwn
import Derived.Test.YtjchnliaglecoaaGreatDoorDwX
set_option linter.unusedVariables false
set_option linter.unusedSimpArgs false
set_option maxRecDepth 100000
set_option maxHeartbeats 8000000
namespace Go.Proofs.YtjchnliaglecoaaGreatDoor
open Go Go.RowKit Go.Nodes
theorem EI (w:World) (p:Option Addr) (c:Nat) (ns:List Nd) (hL0:(ns.length:Int)≤5000) (ha:aA w p ns) (N:Nat) (hN:N≤ns.length) (hv:lu ns N) (text:ByteArray) (kp:Option Addr) (aG:Nat) (kids:List Int) (place:Int) (hf:bC w kp kids) (dB:0<kids.length) (fc:∀k∈kids,0≤k∧k<N):
  Calls Tryz.prog 142 #[.slice p ns.length c,Fz ⟨6,text,kp,aG,kids,place⟩] w fun e w'=>e=cP (decide (iR ns (kids.getD 0 0)=17∨iR ns (kids.getD 0 0)=21))∧Below w.heap.size w w':=by
 exact agU
theorem EJ (w:World) (p:Option Addr) (c:Nat) (ns:List Nd) (hL0:(ns.length:Int)≤5000) (ha:aA w p ns) (N:Nat) (hN:N≤ns.length) (hv:lu ns N) (text:ByteArray) (kp:Option Addr) (aG:Nat) (kids:List Int) (place:Int) (hf:bC w kp kids) (dB:0<kids.length) (fc:∀k∈kids,0≤k∧k<N):
  Calls Tryz.prog 142 #[.slice p ns.length c,Fz ⟨7,text,kp,aG,kids,place⟩] w fun e w'=>e=cP (decide (iR ns (kids.getD 0 0)=17∨iR ns (kids.getD 0 0)=21))∧Below w.heap.size w w':=by
 exact agU
def od (ns:List Nd) (n:Int):ByteArray:=match ns[n.toNat]? with
 |some x=>x.text
 |none=>ByteArray.empty
theorem oY (ns:List Nd) (n:Int):(od ns n).data.toList=aZ ns n:=by
 unfold od aZ;cases ns[n.toNat]?<;>rfl
def Ct (ns:List Nd) (text:ByteArray) (kids:List Int):Bool:=if CA.contains text.data.toList then decide (aB ns (kids.getD 0 0)=15) && eX (aZ ns (kids.getD 0 0)) else true
theorem Ae (w:World) (p:Option Addr) (c:Nat) (ns:List Nd) (hL0:(ns.length:Int)≤5000) (hs:Small ns) (ha:aA w p ns) (hl:cu w) (N:Nat) (hN:N≤ns.length) (text:ByteArray) (wj:text.size≤20000) (kp:Option Addr) (aG:Nat) (kids:List Int) (place:Int) (hf:bC w kp kids) (fc:∀k∈kids,0≤k∧k<N)
  (dB:CA.contains text.data.toList=true→0<kids.length):
  Calls Tryz.prog 142 #[.slice p ns.length c,Fz ⟨21,text,kp,aG,kids,place⟩] w fun e w'=>e=cP (Ct ns text kids)∧Below w.heap.size w w':=by
 have I7:Hid (∀W,Below w.heap.size w W→Calls Tryz.prog 182 #[.string text,.string ⟨#[114,101,97,100,32,119,114,105,116,101]⟩] W fun e w'=>e=.returned (.bool (CA.contains text.data.toList))∧Below W.heap.size W w'):=hid fun W hW=>aev text aa W (hl.later hW)
 unfold Ct Fz;simp only;by_cases AA:CA.contains text.data.toList=true
 ·have oB:=dB AA;rcases hf with ix|⟨bk,ok,rfl,fu,fI⟩
  ·subst ix;simp at oB
  replace fI:=fI 0 oB;have bZ:=fc (kids.getD 0 0) Kf;obtain⟨z,hz⟩:∃z:Nat,kids.getD 0 0=(z:Int):=⟨(kids.getD 0 0).toNat,by omega⟩;rw [show kids[0]=(z:Int) by rw [←hz,List.getD,List.getElem?_eq_getElem oB];rfl,Nat.add_zero] at fI;rw [hz] at bZ ⊢;rw [if_pos AA];rw [AA] at I7;have hzl:z<ns.length:=aa;obtain⟨b2,o2,rfl,hb2,hx2,hf2,d0,d1,d2,d3⟩:=fq ha hzl;have hsz:=(hs.2 ns[z] (List.getElem_mem hzl)).2;rw [aY hx2,gP hx2];have Cs:Hid (∀W,Below w.heap.size w W→Calls Tryz.prog 186 #[.string ns[z].text] W fun e w2=>e=.returned (.bool (eX ns[z].text.data.toList))∧Below W.heap.size W w2):=hid fun W hW=>by
   have h:=sG ns[z].text aa W (hl.later hW);rw [Cb] at h;exact h
  have z0:(0:Int)≤(z:Int):=aa;have z1:(z:Int)<(ns.length:Int):=aa;obtain⟨q,hq⟩:∃q,q=kids.length:=⟨_,rfl⟩;rw [←hq] at oB ⊢;have q1:(0:Int)<(q:Int):=aa;clear ha fc hz hq dB hx2 hf2 AA hl hs hsz d2 d3;generalize ns[z]=y at*;generalize ns.length=L at*;generalize y.kind=ky at*;generalize eX y.text.data.toList=ch at*;by_cases Ig:ky=15
  ·subst Ig;simp only [decide_true,Bool.true_and];cases ch with
   |true=>
    go_enter Tryz.func142,Tryz.ntmps142;go_wp2_with (first
     |(go_at_call 182;((with_reducible refine(I7.out _ cN).mono ?_));rintro e w' ⟨rfl,hb⟩;obtain⟨g1,rfl⟩:=ay hb;clear hb)
     |(go_at_call 186;((with_reducible refine(Cs.out _ cN).mono ?_));rintro e w' ⟨rfl,hb⟩;obtain⟨g2,rfl⟩:=ay hb;clear hb)
     |(go_at_call 139;((with_reducible refine(dU _).mono ?_));rintro e w' ⟨rfl,hw⟩;rw [hw];clear hw w'))
    exact Ol
   |false=>
    go_enter Tryz.func142,Tryz.ntmps142;go_wp2_with (first
     |(go_at_call 182;((with_reducible refine(I7.out _ cN).mono ?_));rintro e w' ⟨rfl,hb⟩;obtain⟨g1,rfl⟩:=ay hb;clear hb)
     |(go_at_call 186;((with_reducible refine(Cs.out _ cN).mono ?_));rintro e w' ⟨rfl,hb⟩;obtain⟨g2,rfl⟩:=ay hb;clear hb)
     |(go_at_call 139;((with_reducible refine(gW _).mono ?_));rintro e w' ⟨rfl,hw⟩;rw [hw];clear hw w'))
    exact Oq
  ·have akX:=cA Ig;rw [decide_eq_false Ig,Bool.false_and];clear Ig;go_enter Tryz.func142,Tryz.ntmps142;go_wp2_with (first
    |(go_at_call 182;((with_reducible refine(I7.out _ cN).mono ?_));rintro e w' ⟨rfl,hb⟩;obtain⟨g1,rfl⟩:=ay hb;clear hb)
    |(go_at_call 139;((with_reducible refine(gW _).mono ?_));rintro e w' ⟨rfl,hw⟩;rw [hw];clear hw w'))
   exact Oq
 ·rw [if_neg AA];rw [show CA.contains text.data.toList=false by simpa using AA] at I7;clear AA ha fc dB hf hl;generalize ns.length=L at*;generalize kids.length=q at*;go_enter Tryz.func142,Tryz.ntmps142;go_wp2_with (go_at_call 182;((with_reducible refine(I7.out _ cN).mono ?_));rintro e w' ⟨rfl,hb⟩;obtain⟨g1,rfl⟩:=ay hb;clear hb);exact Ol
theorem Cu {w W:World} {p kp:Option Addr} {ns:List Nd} {kids:List Int} (ha:aA w p ns) (hf:bC w kp kids) (hW:Below w.heap.size w W) (N:Nat) (hN:N≤ns.length) (l:List Int) (hp:l<+:kids) (fc:∀k∈l,0≤k∧k<N):Ag W p kp ns.length (l.map (od ns)):=by
 intro i t hi;rw [List.getElem?_map] at hi;cases hg:l[i]? with
 |none=>rw [hg] at hi;cases hi
 |some k=>
  rw [hg] at hi;simp only [Option.map_some,Option.some.injEq] at hi;obtain⟨lq,hgk⟩:=List.getElem?_eq_some_iff.1 hg;have QC:=fc k (List.mem_of_getElem? hg);obtain⟨z,rfl⟩:∃z:Nat,k=(z:Int):=⟨k.toNat,by omega⟩;have hzl:z<ns.length:=aa;obtain⟨b2,o2,rfl,hb2,hx2,hf2,d0,d1,d2,d3⟩:=fq ha hzl;have hlk:=hp.length_le;rcases hf with ix|⟨bk,ok,rfl,fu,fI⟩
  ·subst ix;simp at hlk;subst hlk;simp at lq
  have uQ:=fI i aa;rw [show kids[i]'aa=(z:Int) by rw [←hgk];obtain⟨r,hr⟩:=hp;subst hr;simp [List.getElem_append,lq]] at uQ;refine⟨b2,o2,bk,ok,z,rfl,rfl,by have:=hW.size;omega,by have:=hW.size;omega,hzl,(hW.cell (p:=⟨bk,ok+i,none⟩) fu).trans uQ, ?_⟩;rw [←hi];unfold od;rw [Int.toNat_natCast,hx2];exact(hW.cell (p:=⟨b2,o2+z*4+1,none⟩) hb2).trans d1
theorem vX {ns:List Nd} (hs:Small ns) (k:Int):(od ns k).size≤20000:=by
 unfold od;cases h:ns[k.toNat]? with
 |none=>simp
 |some x=>exact(hs.2 x (List.mem_of_getElem? h)).2
theorem EK (w:World) (p:Option Addr) (c:Nat) (ns:List Nd) (hL0:(ns.length:Int)≤5000) (hs:Small ns) (ha:aA w p ns) (N:Nat) (hN:N≤ns.length) (text:ByteArray) (kp:Option Addr) (aG:Nat) (kids:List Int) (place:Int) (hf:bC w kp kids) (gq:(kids.length:Int)≤20000) (fc:∀k∈kids,0≤k∧k<N):
  Calls Tryz.prog 142 #[.slice p ns.length c,Fz ⟨32,text,kp,aG,kids,place⟩] w fun e w'=>e=cP (decide ((kids.map (aZ ns)).Nodup))∧Below w.heap.size w w':=by
 unfold Fz;simp only;have Hun:Hid (∀W,Below w.heap.size w W→Calls Tryz.prog 187 #[.slice p ns.length c,.slice kp kids.length aG,.func (.func 188) #[] #[]] W fun e w'=>e=.returned (.bool (decide ((kids.map (aZ ns)).Nodup)))∧Below W.heap.size W w'):=hid fun W hW=>by
  have h:=EO W p kp ns.length c kids.length aG hL0 gq (kids.map (od ns)) ak (Cu ha hf hW N hN kids (List.prefix_refl _) fc) (fun s h=>by obtain⟨k,_,rfl⟩:=List.mem_map.1 h;exact vX hs k);rw [List.map_map] at h;rw [show((fun s:ByteArray=>s.data.toList) ∘ od ns)=aZ ns from funext fun k=>oY ns k] at h;exact h
 clear ha hf fc hs;generalize decide ((kids.map (aZ ns)).Nodup)=R at*;generalize ns.length=L at*;generalize kids.length=q at*;exact YO
theorem Af (w:World) (p:Option Addr) (c:Nat) (ns:List Nd) (hL0:(ns.length:Int)≤5000) (hs:Small ns) (ha:aA w p ns) (N:Nat) (hN:N≤ns.length) (text:ByteArray) (kp:Option Addr) (aG:Nat) (kids:List Int) (place:Int) (hf:bC w kp kids) (gq:(kids.length:Int)≤20000) (fc:∀k∈kids,0≤k∧k<N)
  (dB:0<kids.length) (aX:kids.length≤aG) (XA:∀k∈kids.dropLast,0<(aZ ns k).length):
  Calls Tryz.prog 142 #[.slice p ns.length c,Fz ⟨1,text,kp,aG,kids,place⟩] w fun e w'=>e=cP (decide ((kids.dropLast.map (fun k=>(aZ ns k).take 1)).Nodup))∧Below w.heap.size w w':=by
 unfold Fz;simp only;obtain⟨q,hq⟩:∃q,q+1=kids.length:=⟨kids.length - 1,by omega⟩;have Hun:Hid (∀W,Below w.heap.size w W→Calls Tryz.prog 187 #[.slice p ns.length c,.slice kp q aG,.func (.func 189) #[] #[]] W fun e w'=>e=.returned (.bool (decide ((kids.dropLast.map (fun k=>(aZ ns k).take 1)).Nodup)))∧Below W.heap.size W w'):=hid fun W hW=>by
  have h:=EP W p kp ns.length c q aG hL0 aa (kids.dropLast.map (od ns)) cr (Cu ha hf hW N hN kids.dropLast (List.dropLast_prefix _) (fun k hk=>fc k (List.dropLast_subset _ hk))) (fun s h=>by
   obtain⟨k,hk,rfl⟩:=List.mem_map.1 h;have h2:=XA k hk;rw [←oY] at h2;exact⟨by simpa using h2,vX hs k⟩)
  rw [List.map_map] at h;rw [show((fun s:ByteArray=>s.data.toList.take 1) ∘ od ns)=(fun k=>(aZ ns k).take 1) from funext fun k=>by simp only [Function.comp,oY]] at h;exact h
 clear ha hf fc hs XA dB;generalize decide ((kids.dropLast.map (fun k=>(aZ ns k).take 1)).Nodup)=R at*;generalize ns.length=L at*;rw [←hq] at aX gq ⊢;clear hq;have q0:(0:Int)≤(q:Int):=aa;have q1:(q:Int)≤(aG:Int):=aa;exact YO
end Go.Proofs.YtjchnliaglecoaaGreatDoor
/- A part of the proof. Conditions: none. -/
set_option maxRecDepth 100000
set_option maxHeartbeats 8000000
namespace Go.Proofs.YtjchnliaglecoaaGreatDoor
open Go Go.RowKit Go.Nodes
theorem Ms (w:World) (p:Option Addr) (c:Nat) (ns:List Nd) (hs:Small ns) (ha:aA w p ns) (hl:cu w) (n:Nat) (hn:n<ns.length) (hv:lu ns n) (x:Nd) (hf:bC w x.kp x.kids) (hsz:x.kids.length≤20000) (wj:x.text.size≤20000) (aX:x.kids.length≤x.aG) (hx:L5 ns n x):
  Calls Tryz.prog 142 #[.slice p ns.length c,Fz x] w fun e w'=>e=cP (jD ns x)∧Below w.heap.size w w':=by
 have hL:(ns.length:Int)≤5000:=by have:=hs.1;omega
 have gq:(x.kids.length:Int)≤20000:=aa;unfold jD;obtain⟨kind,text,kp,aG,kids,place⟩:=x;have jS:=hx.kids;simp only at hf hsz wj aX gq jS ⊢;by_cases h3:kind=3
 ·rw [if_pos h3];subst h3;exact D8 w p c ns hL ha n hn text kp aG kids place hf gq jS
 rw [if_neg h3];by_cases h67:kind=6∨kind=7
 ·rw [if_pos h67];have dB:0<kids.length:=pQ hx.fits (by simp only;omega);rcases h67 with rfl|rfl
  ·exact EI w p c ns hL ha n aa hv text kp aG kids place hf dB jS
  ·exact EJ w p c ns hL ha n aa hv text kp aG kids place hf dB jS
 rw [if_neg h67];by_cases QJ:kind=21
 ·rw [if_pos QJ];subst QJ;refine Ae w p c ns hL hs ha hl n aa text wj kp aG kids place hf jS fun h=>?_
  have h2:bn text.data.toList=(kids.length:Int):=of_decide_eq_true hx.text;have:=X7 h;omega
 rw [if_neg QJ];by_cases CB:kind=32
 ·rw [if_pos CB];subst CB;exact EK w p c ns hL hs ha n aa text kp aG kids place hf gq jS
 rw [if_neg CB];by_cases h1:kind=1
 ·rw [if_pos h1];subst h1;exact Af w p c ns hL hs ha n aa text kp aG kids place hf gq jS (pQ hx.fits ak) aX (xE hx hv aa rfl)
 rw [if_neg h1];exact D7 w p ns.length c ⟨kind,text,kp,aG,kids,place⟩ ⟨h1,h3,by simp only;omega,by simp only;omega,QJ,CB⟩
end Go.Proofs.YtjchnliaglecoaaGreatDoor
/- A part of the proof. Conditions: none. -/
set_option maxRecDepth 100000
set_option maxHeartbeats 8000000
namespace Go.Proofs.YtjchnliaglecoaaGreatDoor
open Go Go.RowKit Go.Nodes
theorem GS {w w':World} {B:Nat} {e:TypeId} {size:Nat} {v:Value} {n:Nat} {xs:List Value} (h:w.ownsRow B e size v n xs) (hb:Below w.heap.size w w'):w'.ownsRow B e size v n xs:=by
 obtain⟨h1,h2⟩:=h;refine⟨h1, ?_⟩;rcases h2 with h2|⟨g,cap,cur,hv,hg,hh,hr⟩
 ·exact Or.inl h2
 ·exact Or.inr ⟨g,cap,cur,hv,hg,by rw [hb.block g (Array.getElem?_eq_some_iff.1 hh).1];exact hh,hr⟩
def Ints (B:Nat) (w:World) (v:Value) (l:List Int):Prop:=w.ownsRow B 3 1 v l.length (l.map (Value.int .i64))
theorem ri {P:Program} (w:World) (base:Nat) (t ty e:TypeId) (i:TypeInfo) (z:Value) (size bytes:Nat) (ht:P.underlying t=some (.slice e)) (hi:P.info? e=some i) (hz:i.zero=some z)
  (hsize:i.size=size) (hby:i.bytes=bytes) (hzs:z.cells.size=size) (hsz:0<size) (v:Value) (n:Nat) (xs:List Value) (hown:w.ownsRow base e size v n xs)
  (a:Addr) (m c:Nat) (hm:0<m) (news:List Value) (hl:news.length=m*size) (hnews:∀j u,news[j]?=some u→w.cell? (a.add j)=some u) (h1:∀u∈news,u.oneCell'=true)
  (h63:n+m≤maxLen) (hbytes:(n+m)*bytes≤140737488355328) (hbase:base≤w.heap.size):
  ∃v' w',(Builtin.append_ #[t,t] ty #[v,.slice (some a) m c]).run P w=.ok v' w'∧w'.ownsRow base e size v' (n+m) (xs++news)∧w.grownBy w' v.ownBlock∧(v'.ownBlock=v.ownBlock∨v'.ownBlock=some w.heap.size):=by
 obtain⟨v',w',hr,h2,h3,h4⟩:=run_append_own (P:=P) w base t ty e i z size bytes ht hi hz hsize hby hzs hsz v n xs hown a m c news hl hnews h1 h63 hbytes hbase;refine⟨v',w',hr,h2,h3, ?_⟩;subst hsize;subst hby
 rcases hown.2 with⟨rfl,rfl⟩|⟨g,cap,cur,rfl,hbg,hg,hnc,hcm,hcs,sx⟩
 ·have hr2:=run_append_nil (P:=P) w t ty e i z ht hi hz a m c news hl hnews aa (by unfold maxLen at h63;omega) (by have hb:=hbytes;simp only [Nat.zero_add] at hb;omega);rw [hr] at hr2;cases hr2;exact .inr rfl
 ·by_cases hroom:n+m≤cap
  ·have oB:n*i.size+news.length≤cur.size:=by rw [hl,hcs,←Nat.add_mul];exact Nat.mul_le_mul_right _ hroom
   have hr2:=run_append_room (P:=P) w t ty e i ht hi g n cap cur hg a m c news hl hnews h1 hroom oB;rw [hr] at hr2;cases hr2;exact .inl rfl
  ·have holds:∀j u,xs[j]?=some u→w.cell? ((⟨g,0,none⟩:Addr).add j)=some u:=hown.cells (g:=g) rfl;have hr2:=run_append_grow (P:=P) w t ty e i z ht hi hz ⟨g,0,none⟩ n cap xs hown.1 holds a m c news hl hnews aa (by unfold maxLen at h63;omega) (growslice_fits aa hbytes);rw [hr] at hr2;cases hr2;exact .inr rfl
theorem nJ {P:Program} (w:World) {ops:Array Oper} {rest:List Oper} {o:Oper} {a:Act} {Q:Exit→Act→World→Prop} (hgd:o.guard=none) (s x:Operand) (t:TypeId)
  (ho:o.op=.call {callee:=.builtin .append,args:=#[s,x],argTypes:=#[t,t]})
  (base:Nat) (e:TypeId) (i:TypeInfo) (z:Value) (size bytes:Nat) (ht:P.underlying t=some (.slice e)) (hi:P.info? e=some i) (hz:i.zero=some z)
  (hsize:i.size=size) (hby:i.bytes=bytes) (hzs:z.cells.size=size) (hsz:0<size) (v:Value) (n:Nat) (xs:List Value) (hs:a.eval s=v) (hown:w.ownsRow base e size v n xs)
  (ad:Addr) (m c:Nat) (hm:0<m) (news:List Value) (hx:a.eval x=.slice (some ad) m c) (hl:news.length=m*size) (hnews:∀j u,news[j]?=some u→w.cell? (ad.add j)=some u) (h1:∀u∈news,u.oneCell'=true)
  (h63:n+m≤maxLen) (hbytes:(n+m)*bytes≤140737488355328) (hbase:base≤w.heap.size)
  (h:∀v' w',w'.ownsRow base e size v' (n+m) (xs++news)→w.grownBy w' v.ownBlock→(v'.ownBlock=v.ownBlock∨v'.ownBlock=some w.heap.size)→wpList P ops Q rest (a.put o.dst v') w'):wpList P ops Q (o::rest) a w:=
 wpList_plain hgd fun _ hK=>by
  obtain⟨v',w',hr,h2,h3,h4⟩:=ri (P:=P) w base t o.type e i z size bytes ht hi hz hsize hby hzs hsz v n xs hown ad m c hm news hl hnews h1 h63 hbytes hbase;unfold Oper.wp execOp;simp only [ho,resolve,invoke,builtin,Sem.run_bind,Sem.run_pure,Result.andThen_ok,List.map_toArray,List.map_cons,List.map_nil,hs,hx,hr];exact hK _ _ (h v' w' h2 h3 h4)
theorem pP {w:World} {ops:Array Oper} {rest:List Oper} {o:Oper} {a:Act} {Q:Exit→Act→World→Prop} (hgd:o.guard=none) (s x:Operand)
  (ho:o.op=.call {callee:=.builtin .append,args:=#[s,x],argTypes:=#[26,26]}) (base:Nat) (v:Value) (xs:List Int) (y:Int) (g c:Nat) (hs:a.eval s=v) (hown:Ints base w v xs) (hx:a.eval x=.slice (some ⟨g,0,none⟩) 1 c) (hc:w.cell? ⟨g,0,none⟩=some (.int .i64 y))
  (hl:xs.length≤1000000) (hbase:base≤w.heap.size)
  (h:∀v' w',Ints base w' v' (xs++[y])→w.grownBy w' v.ownBlock→(v'.ownBlock=v.ownBlock∨v'.ownBlock=some w.heap.size)→wpList Tryz.prog ops Q rest (a.put o.dst v') w'):wpList Tryz.prog ops Q (o::rest) a w:=by
 obtain⟨iI,hiI,zI0,zI1,zI2⟩:=info_parts Tryz.M6;refine nJ w hgd s x 26 ho base 3 iI (.int .i64 0) 1 8 Tryz.underlying26 hiI zI0 zI1 zI2 rfl ai v xs.length (xs.map (Value.int .i64)) hs hown ⟨g,0,none⟩ 1 c ai [.int .i64 y] hx ak ?_ ?_ uB aa hbase fun v' w' h1 h2 h3=>h v' w' ?_ h2 h3
 ·intro j q hj;cases j with
  |zero=>simp at hj;subst hj;exact hc
  |succ j=>simp at hj
 ·intro q hq;simp at hq;subst hq;rfl
 ·unfold Ints;rw [List.length_append,List.map_append];exact h1
theorem Ints.out {B:Nat} {w:World} {v:Value} {l:List Int} (h:Ints B w v l):∃p c,v=.slice p l.length c∧bC w p l:=by
 rcases h.2 with⟨rfl,h0⟩|⟨g,cap,cur,rfl,_,hh,hn,hc,hs,ht⟩
 ·have:l=[]:=by simpa using h0
  subst this;exact⟨none,0,rfl,.inl rfl⟩
 ·refine⟨_,_,rfl,.inr ⟨g,0,rfl,(Array.getElem?_eq_some_iff.1 hh).1,fun i hi=>?_⟩⟩;have h1:(cur.toList.take (l.length*1))[i]?=some (.int .i64 l[i]):=by rw [ht];simp
  rw [List.getElem?_take_of_lt aa] at h1;simp only [World.cell?,hh,Nat.zero_add];simpa using h1
end Go.Proofs.YtjchnliaglecoaaGreatDoor