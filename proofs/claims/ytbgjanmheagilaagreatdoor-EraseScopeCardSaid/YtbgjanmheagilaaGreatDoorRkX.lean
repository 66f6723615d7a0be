/- A part of the proof. Conditions: none. -/
import Derived.Test.YtbgjanmheagilaaGreatDoorZz
import Derived.Test.YtbgjanmheagilaaGreatDoorEaX
import Derived.WalkSmall
import Derived.Lib.OwnKind
set_option linter.unusedVariables false
set_option linter.unusedSimpArgs false
set_option maxRecDepth 100000
set_option maxHeartbeats 8000000
namespace Go.Proofs.YtbgjanmheagilaaGreatDoor
open Go Go.RowKit Go.Nodes
def kL (ns:List Nd) (n:Int):List Int:=((ns[n.toNat]?).map (fun x=>x.kids)).getD []
def Ap (ns:List Nd):Nat→Int→Int→List (Int × Int)
 |0,_,_=>[]
 |f+1,n,d=>(n,d)::(kL ns n).flatMap fun k=>Ap ns f k (d+1)
def pre (ns:List Nd) (n d:Int):List (Int × Int):=Ap ns (n.toNat+1) n d
def cN (ns:List Nd):Prop:=∀(n:Int),0≤n→∀k∈kL ns n,0≤k∧k<n
theorem mR {α β:Type} {l:List α} {f g:α→List β} (h:∀x∈l,f x=g x):l.flatMap f=l.flatMap g:=by
 induction l with
 |nil=>rfl
 |cons a l ih=>rw [List.flatMap_cons,List.flatMap_cons,h a ai,ih fun x hx=>h x (by simp [hx])]
theorem sH {ns:List Nd} (ha:cN ns):∀(f g:Nat) (n d:Int),0≤n→n<f→n<g→Ap ns f n d=Ap ns g n d
 |0,_,n,_,h0,h1,_=>by omega
 |_+1,0,n,_,h0,_,h1=>by omega
 |f+1,g+1,n,d,h0,h1,h2=>by
  unfold Ap;rw [mR fun k hk=>?_];have:=ha n h0 k hk;exact sH ha f g k (d+1) aa aa aa
theorem aae {ns:List Nd} (ha:cN ns) (n d:Int) (h0:0≤n):pre ns n d=(n,d)::(kL ns n).flatMap fun k=>pre ns k (d+1):=by
 unfold pre
 conv=>lhs;unfold Ap
 rw [mR fun k hk=>?_];have:=ha n h0 k hk;exact sH ha _ _ k (d+1) aa aa aa
theorem sI (ns:List Nd):∀(f:Nat) (n d e:Int),(Ap ns f n d).length=(Ap ns f n e).length
 |0,_,_,_=>rfl
 |f+1,n,d,e=>by
  unfold Ap;simp only [List.length_cons,List.length_flatMap];congr 2;exact List.map_congr_left fun k _=>sI ns f k _ _
def wt (ns:List Nd) (n:Nat):Nat:=(pre ns n 0).length
theorem TS (ns:List Nd) (n d:Int) (h:0≤n):(pre ns n d).length=wt ns n.toNat:=by
 unfold wt pre;rw [Int.toNat_natCast,Int.toNat_of_nonneg h];exact sI ns _ n d 0
theorem Nh {ns:List Nd} (ha:cN ns) (n:Nat):wt ns n=1+((kL ns n).map fun k=>wt ns k.toNat).sum:=by
 conv=>lhs;unfold wt
 rw [aae ha _ _ aa,List.length_cons,List.length_flatMap,Nat.add_comm];congr 2;exact List.map_congr_left fun k hk=>TS ns k _ (ha n aa k hk).1
def qm (f:Nat→Nat) (u:List Bool):Nat→Nat
 |0=>0
 |m+1=>qm f u m+if u.getD m false then 0 else f m
theorem qo (f:Nat→Nat) (u:List Bool) (k:Nat):∀m,m≤k→qm f (u.set k true) m=qm f u m
 |0,_=>rfl
 |m+1,h=>by
  unfold qm;rw [qo f u k m aa];congr 2;simp [List.getD,List.getElem?_set_ne (show k≠m by omega)]
theorem CH (f:Nat→Nat) (u:List Bool) (k:Nat) (hk:k<u.length) (hu:u.getD k false=false):∀m,k<m→qm f (u.set k true) m+f k=qm f u m
 |0,h=>by omega
 |m+1,h=>by
  unfold qm;by_cases e:k=m
  ·subst e;rw [qo f u k k (Nat.le_refl _),hu];simp [List.getD,hk]
  ·have:=CH f u k hk hu m aa;have h2:(u.set k true).getD m false=u.getD m false:=by simp [List.getD,List.getElem?_set_ne e]
   rw [h2];omega
theorem ym (f:Nat→Nat) (n:Nat):∀(l:List Int) (u v:List Bool),n≤u.length→bZ n l u=some v→qm f v n+(l.map fun k=>f k.toNat).sum=qm f u n
 |[],u,v,_,h=>by simp [bZ] at h;subst h;simp
 |k::l,u,v,hn,h=>by
  unfold bZ at h;split at h
  ·rename_i h2;have h3:=ym f n l _ _ (by simpa using hn) h;have h4:=CH f u k.toNat aa h2.2.2 n aa;simp only [List.map_cons,List.sum_cons];omega
  ·cases h
theorem vK {ns:List Nd} {n:Nat} {x:Nd} (h:ns[n]?=some x):kL ns n=x.kids:=by simp [kL,h]
theorem vL (ns:List Nd):∀(l:List Nd) (n:Nat) (u v:List Bool),ns.drop n=l→cz ns l n u=(none,v)→∀(m:Nat) (x:Nd),n≤m→ns[m]?=some x→∀k∈x.kids,0≤k∧k<m
 |[],n,u,v,hd,h,m,x,hm,hx,k,hk=>by
  have h1:=List.drop_eq_nil_iff.1 hd;have h2:=(List.getElem?_eq_some_iff.1 hx).1;omega
 |y::l,n,u,v,hd,h,m,x,hm,hx,k,hk=>by
  unfold cz at h;have hy:ns[n]?=some y:=by rw [←List.head?_drop,hd];rfl
  cases AU:bZ n y.kids u with
  |none=>rw [AU] at h;cases h
  |some u2=>
   rw [AU] at h;simp only at h;split at h
   ·by_cases e:m=n
    ·subst e;rw [hy] at hx;cases hx;exact fF m _ _ _ AU k hk
    ·exact vL ns l (n+1) u2 v GJ h m x aa hx k hk
   ·cases h
theorem CI (ns:List Nd) (ha:cN ns):∀(l:List Nd) (n:Nat) (u v:List Bool),ns.drop n=l→n≤ns.length→u.length=ns.length→qm (wt ns) u n≤n→cz ns l n u=(none,v)→qm (wt ns) v ns.length≤ns.length
 |[],n,u,v,hd,hl2,hl,hs,h=>by
  have h1:=List.drop_eq_nil_iff.1 hd;cases h;have A5:n=ns.length:=Nat.le_antisymm hl2 h1;rw [←A5];exact hs
 |y::l,n,u,v,hd,hl2,hl,hs,h=>by
  unfold cz at h;have hy:ns[n]?=some y:=by rw [←List.head?_drop,hd];rfl
  have hn:n<ns.length:=(List.getElem?_eq_some_iff.1 hy).1;cases AU:bZ n y.kids u with
  |none=>rw [AU] at h;cases h
  |some u2=>
   rw [AU] at h;simp only at h;split at h
   ·have h1:=ym (wt ns) n y.kids u u2 aa AU;have h2:=Nh ha n;rw [vK hy] at h2;refine CI ns ha l (n+1) u2 v GJ hn (by rw [rq n _ _ _ AU,hl]) ?_ h;unfold qm;split<;>omega
   ·cases h
theorem taken {ns:List Nd} (h:(aS ns).2=0):cN ns∧0<ns.length∧wt ns (ns.length - 1)≤ns.length:=by
 unfold aS at h;split at h
 ·simp at h
 ·rename_i v hs;split at h
  ·simp at h
  ·rename_i h0;split at h
   ·rename_i hr;have ha:cN ns:=by
     intro n hn k hk;obtain⟨m,rfl⟩:∃m:Nat,n=(m:Int):=⟨n.toNat,by omega⟩;cases hx:ns[m]? with
     |none=>simp [kL,hx] at hk
     |some x=>
      rw [vK hx] at hk;exact vL ns ns 0 _ v rfl hs m x (Nat.zero_le _) hx k hk
    refine⟨ha,by omega, ?_⟩;have h2:=CI ns ha ns 0 _ v rfl (Nat.zero_le _) ai (by simp [qm]) hs;have h3:=List.all_eq_true.1 hr (ns.length - 1) aV;simp only [Bool.and_eq_true,decide_eq_true_eq] at h3;have h4:=h3.2;rw [show ns.length - 1+1=ns.length by omega] at h4;simp only [ne_eq,not_true_eq_false,decide_false] at h4;rw [show ns.length=(ns.length - 1)+1 by omega] at h2;unfold qm at h2;rw [h4] at h2;simp at h2;omega
   ·simp at h
end Go.Proofs.YtbgjanmheagilaaGreatDoor
/- A part of the proof. Conditions: none. -/
set_option maxRecDepth 100000
set_option maxHeartbeats 8000000
namespace Go.Proofs.YtbgjanmheagilaaGreatDoor
open Go Go.RowKit Go.Nodes
theorem oW {B:Nat} {w w':World} {v:Value} {l:List Int} {row:Option Nat} (h:Ints B w v l) (hg:w.grownBy w' row) (hne:∀g,v.ownBlock=some g→row≠some g):Ints B w' v l:=by
 obtain⟨h1,h2⟩:=h;refine⟨h1, ?_⟩;rcases h2 with h2|⟨g,cap,cur,hv,hg',hh,hr⟩
 ·exact Or.inl h2
 ·exact Or.inr ⟨g,cap,cur,hv,hg',by rw [hg.block g (Array.getElem?_eq_some_iff.1 hh).1 (fun e=>hne g (by rw [hv];rfl) e.symm)];exact hh,hr⟩
theorem T8 {B:Nat} {w:World} {v:Value} {l:List Int} (h:Ints B w v l):∀g,v.ownBlock=some g→g<w.heap.size:=by
 intro g hg;obtain⟨c,fz,h2⟩:=Go.Lib.ownsRow_kind h g hg;exact(Array.getElem?_eq_some_iff.1 h2).1
structure gH (B:Nat) (w:World) (fl:List Value) (ls:List (List Int)):Prop where
 len:fl.length=ls.length
 rows:∀(i:Nat) (v:Value) (l:List Int),fl[i]?=some v→ls[i]?=some l→Ints B w v l
 apart:∀(i j:Nat) (v u:Value),i≠j→fl[i]?=some v→fl[j]?=some u→∀g,v.ownBlock=some g→u.ownBlock≠some g
theorem gH.later {B:Nat} {w w':World} {fl:List Value} {ls:List (List Int)} (h:gH B w fl ls) (hb:Below w.heap.size w w'):gH B w' fl ls:=
 ⟨h.len,fun i v l a b=>cC (h.rows i v l a b) hb,h.apart⟩
theorem gH.put {B:Nat} {w w3:World} {fl:List Value} {ls:List (List Int)} {v v':Value} {l':List Int} (h:gH B w fl ls) (j:Nat) (hj:fl[j]?=some v) (hg:w.grownBy w3 v.ownBlock)
  (hown:Ints B w3 v' l') (AW:v'.ownBlock=v.ownBlock∨v'.ownBlock=some w.heap.size):gH B w3 (fl.set j v') (ls.set j l'):=by
 have qA:j<fl.length:=(List.getElem?_eq_some_iff.1 hj).1;refine⟨by simpa using h.len,fun i u l hu hl=>?_,fun i k u z hik hu hz g Jt=>?_⟩
 ·rw [List.getElem?_set] at hu hl;by_cases e:j=i
  ·subst e;rw [if_pos rfl,if_pos qA] at hu;rw [if_pos rfl,if_pos (by have:=h.len;omega)] at hl;cases hu;cases hl;exact hown
  ·rw [if_neg e] at hu hl;exact oW (h.rows i u l hu hl) hg fun g hg'=>fun e2=>h.apart j i v u e hj hu g e2 hg'
 ·have hold:∀(i:Nat) (u:Value),fl[i]?=some u→∀g,u.ownBlock=some g→g<w.heap.size:=fun i u hu g Jt=>by
   have hi:i<ls.length:=by rw [←h.len];exact(List.getElem?_eq_some_iff.1 hu).1
   exact T8 (h.rows i u _ hu (List.getElem?_eq_getElem hi)) g Jt
  rw [List.getElem?_set] at hu hz;by_cases e:j=i
  ·subst e;rw [if_pos rfl,if_pos qA] at hu;rw [if_neg hik] at hz;cases hu;intro JK;rcases AW with hw|hw
   ·exact h.apart j k v z hik hj hz g (by rw [←hw];exact Jt) JK
   ·rw [hw] at Jt;cases Jt;exact absurd (hold k z hz _ JK) aa
  ·rw [if_neg e] at hu;by_cases e2:j=k
   ·subst e2;rw [if_pos rfl,if_pos qA] at hz;cases hz;intro JK;rcases AW with hw|hw
    ·exact h.apart i j u v hik hu hj g Jt (by rw [←hw];exact JK)
    ·rw [hw] at JK;cases JK;exact absurd (hold i u hu _ Jt) aa
   ·rw [if_neg e2] at hz;exact h.apart i k u z hik hu hz g Jt
end Go.Proofs.YtbgjanmheagilaaGreatDoor