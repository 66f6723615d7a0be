/- A part of the proof. Conditions: none. -/
import Derived.Test.YtjchnliaglecoaaGreatDoorZz
import Derived.Test.YtjchnliaglecoaaGreatDoorRoX
import Derived.WalkSmall
import Derived.Lib.OwnKind
import Derived.Test.YtjchnliaglecoaaGreatDoorTb
set_option linter.unusedVariables false
set_option linter.unusedSimpArgs false
set_option maxRecDepth 100000
set_option maxHeartbeats 8000000
namespace Go.Proofs.YtjchnliaglecoaaGreatDoor
open Go Go.RowKit Go.Nodes
def jG (ns:List Nd) (n:Int):List Int:=((ns[n.toNat]?).map (fun x=>x.kids)).getD []
def zO (ns:List Nd):Nat→Int→Int→List (Int × Int)
 |0,_,_=>[]
 |f+1,n,d=>(n,d)::(jG ns n).flatMap fun k=>zO ns f k (d+1)
def pre (ns:List Nd) (n d:Int):List (Int × Int):=zO ns (n.toNat+1) n d
def dK (ns:List Nd):Prop:=∀(n:Int),0≤n→∀k∈jG ns n,0≤k∧k<n
theorem mP {α β:Type} {l:List α} {f g:α→List β} (h:∀x∈l,f x=g x):l.flatMap f=l.flatMap g:=by
 induction l with
 |nil=>rfl
 |cons a l ih=>rw [List.flatMap_cons,List.flatMap_cons,h a ak,ih fun x hx=>h x (by simp [hx])]
theorem sy {ns:List Nd} (ha:dK ns):∀(f g:Nat) (n d:Int),0≤n→n<f→n<g→zO ns f n d=zO ns g n d
 |0,_,n,_,h0,h1,_=>by omega
 |_+1,0,n,_,h0,_,h1=>by omega
 |f+1,g+1,n,d,h0,h1,h2=>by
  unfold zO;rw [mP fun k hk=>?_];have:=ha n h0 k hk;exact sy ha f g k (d+1) aa aa aa
theorem abK {ns:List Nd} (ha:dK ns) (n d:Int) (h0:0≤n):pre ns n d=(n,d)::(jG ns n).flatMap fun k=>pre ns k (d+1):=by
 unfold pre
 conv=>lhs;unfold zO
 rw [mP fun k hk=>?_];have:=ha n h0 k hk;exact sy ha _ _ k (d+1) aa aa aa
theorem sA (ns:List Nd):∀(f:Nat) (n d e:Int),(zO ns f n d).length=(zO ns f n e).length
 |0,_,_,_=>rfl
 |f+1,n,d,e=>by
  unfold zO;simp only [List.length_cons,List.length_flatMap];congr 2;exact List.map_congr_left fun k _=>sA ns f k _ _
def wt (ns:List Nd) (n:Nat):Nat:=(pre ns n 0).length
theorem Tq (ns:List Nd) (n d:Int) (h:0≤n):(pre ns n d).length=wt ns n.toNat:=by
 unfold wt pre;rw [Int.toNat_natCast,Int.toNat_of_nonneg h];exact sA ns _ n d 0
theorem YE {ns:List Nd} (ha:dK ns) (n:Nat):wt ns n=1+((jG ns n).map fun k=>wt ns k.toNat).sum:=by
 conv=>lhs;unfold wt
 rw [abK ha _ _ aa,List.length_cons,List.length_flatMap,Nat.add_comm];congr 2;exact List.map_congr_left fun k hk=>Tq ns k _ (ha n aa k hk).1
def qd (f:Nat→Nat) (u:List Bool):Nat→Nat
 |0=>0
 |m+1=>qd f u m+if u.getD m false then 0 else f m
theorem qf (f:Nat→Nat) (u:List Bool) (k:Nat):∀m,m≤k→qd f (u.set k true) m=qd f u m
 |0,_=>rfl
 |m+1,h=>by
  unfold qd;rw [qf f u k m aa];congr 2;simp [List.getD,List.getElem?_set_ne (show k≠m by omega)]
theorem BN (f:Nat→Nat) (u:List Bool) (k:Nat) (hk:k<u.length) (hu:u.getD k false=false):∀m,k<m→qd f (u.set k true) m+f k=qd f u m
 |0,h=>by omega
 |m+1,h=>by
  unfold qd;by_cases e:k=m
  ·subst e;rw [qf f u k k (Nat.le_refl _),hu];simp [List.getD,hk]
  ·have:=BN f u k hk hu m aa;have h2:(u.set k true).getD m false=u.getD m false:=by simp [List.getD,List.getElem?_set_ne e]
   rw [h2];omega
theorem xO (f:Nat→Nat) (n:Nat):∀(l:List Int) (u v:List Bool),n≤u.length→dS n l u=some v→qd f v n+(l.map fun k=>f k.toNat).sum=qd f u n
 |[],u,v,_,h=>by simp [dS] at h;subst h;simp
 |k::l,u,v,hn,h=>by
  unfold dS at h;split at h
  ·rename_i h2;have h3:=xO f n l _ _ (by simpa using hn) h;have h4:=BN f u k.toNat aa h2.2.2 n aa;simp only [List.map_cons,List.sum_cons];omega
  ·cases h
theorem vh {ns:List Nd} {n:Nat} {x:Nd} (h:ns[n]?=some x):jG ns n=x.kids:=by simp [jG,h]
theorem vk (ns:List Nd):∀(l:List Nd) (n:Nat) (u v:List Bool),ns.drop n=l→eF ns l n u=(none,v)→∀(m:Nat) (x:Nd),n≤m→ns[m]?=some x→∀k∈x.kids,0≤k∧k<m
 |[],n,u,v,hd,h,m,x,hm,hx,k,hk=>by
  have h1:=List.drop_eq_nil_iff.1 hd;have h2:=(List.getElem?_eq_some_iff.1 hx).1;omega
 |y::l,n,u,v,hd,h,m,x,hm,hx,k,hk=>by
  unfold eF at h;have hy:ns[n]?=some y:=by rw [←List.head?_drop,hd];rfl
  cases YF:dS n y.kids u with
  |none=>rw [YF] at h;cases h
  |some u2=>
   rw [YF] at h;simp only at h;split at h
   ·by_cases e:m=n
    ·subst e;rw [hy] at hx;cases hx;exact iW m _ _ _ YF k hk
    ·exact vk ns l (n+1) u2 v (by rw [←List.drop_drop,hd];rfl) h m x aa hx k hk
   ·cases h
theorem BO (ns:List Nd) (ha:dK ns):∀(l:List Nd) (n:Nat) (u v:List Bool),ns.drop n=l→n≤ns.length→u.length=ns.length→qd (wt ns) u n≤n→eF ns l n u=(none,v)→qd (wt ns) v ns.length≤ns.length
 |[],n,u,v,hd,hl2,hl,hs,h=>by
  have h1:=List.drop_eq_nil_iff.1 hd;cases h;have yZ:n=ns.length:=Nat.le_antisymm hl2 h1;rw [←yZ];exact hs
 |y::l,n,u,v,hd,hl2,hl,hs,h=>by
  unfold eF at h;have hy:ns[n]?=some y:=by rw [←List.head?_drop,hd];rfl
  have hn:n<ns.length:=(List.getElem?_eq_some_iff.1 hy).1;cases YF:dS n y.kids u with
  |none=>rw [YF] at h;cases h
  |some u2=>
   rw [YF] at h;simp only at h;split at h
   ·have h1:=xO (wt ns) n y.kids u u2 aa YF;have h2:=YE ha n;rw [vh hy] at h2;refine BO ns ha l (n+1) u2 v (by rw [←List.drop_drop,hd];rfl) hn (by rw [qQ n _ _ _ YF,hl]) ?_ h;unfold qd;split<;>omega
   ·cases h
theorem taken {ns:List Nd} (h:(bF ns).2=0):dK ns∧0<ns.length∧wt ns (ns.length - 1)≤ns.length:=by
 unfold bF at h;split at h
 ·simp at h
 ·rename_i v hs;split at h
  ·simp at h
  ·rename_i h0;split at h
   ·rename_i hr;have ha:dK ns:=by
     intro n hn k hk;obtain⟨m,rfl⟩:∃m:Nat,n=(m:Int):=⟨n.toNat,by omega⟩;cases hx:ns[m]? with
     |none=>simp [jG,hx] at hk
     |some x=>
      rw [vh hx] at hk;exact vk ns ns 0 _ v rfl hs m x (Nat.zero_le _) hx k hk
    refine⟨ha,by omega, ?_⟩;have h2:=BO ns ha ns 0 _ v rfl (Nat.zero_le _) ak (by simp [qd]) hs;have h3:=List.all_eq_true.1 hr (ns.length - 1) cr;simp only [Bool.and_eq_true,decide_eq_true_eq] at h3;have h4:=h3.2;rw [show ns.length - 1+1=ns.length by omega] at h4;simp only [ne_eq,not_true_eq_false,decide_false] at h4;rw [show ns.length=(ns.length - 1)+1 by omega] at h2;unfold qd at h2;rw [h4] at h2;simp at h2;omega
   ·simp at h
end Go.Proofs.YtjchnliaglecoaaGreatDoor
/- A part of the proof. Conditions: none. -/
set_option maxRecDepth 100000
set_option maxHeartbeats 8000000
namespace Go.Proofs.YtjchnliaglecoaaGreatDoor
open Go Go.RowKit Go.Nodes
end Go.Proofs.YtjchnliaglecoaaGreatDoor
/- A part of the proof. Conditions: none. -/
set_option maxRecDepth 100000
set_option maxHeartbeats 8000000
namespace Go.Proofs.YtjchnliaglecoaaGreatDoor
open Go Go.RowKit Go.Nodes
end Go.Proofs.YtjchnliaglecoaaGreatDoor
/- A part of the proof. Conditions: none. -/
set_option maxRecDepth 100000
set_option maxHeartbeats 8000000
namespace Go.Proofs.YtjchnliaglecoaaGreatDoor
open Go Go.RowKit Go.Nodes
structure Vr where
 node:Int
 fn:Int
 taken:Bool
 set:Bool
structure Fs where
 vars:List Vr
 uses:List Int
 funcs:List Int
 ups:List Int
 seen:List Int
 many:List Int
 bE:Int
 e:Int
def bp (ns:List Nd) (n:Int):List Int:=match ns[n.toNat]? with
 |some x=>x.kids
 |none=>[]
section
variable {FB:Nat} {p:Option Addr} {c L:Nat} {W W':World} {s s':Fs} {v0 v1 v2 v3 v4 v5:Value}
end
end Go.Proofs.YtjchnliaglecoaaGreatDoor