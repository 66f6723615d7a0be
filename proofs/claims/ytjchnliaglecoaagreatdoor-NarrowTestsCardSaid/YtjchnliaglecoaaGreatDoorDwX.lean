/- A part of the proof. Conditions: none. -/
import Derived.Test.YtjchnliaglecoaaGreatDoorZz
import Derived.Test.YtjchnliaglecoaaGreatDoorNodes
import Derived.Test.YtjchnliaglecoaaGreatDoorBase
import Derived.Test.YtjchnliaglecoaaGreatDoorProg
import Derived.Test.YtjchnliaglecoaaGreatDoorNodesB
import Derived.Test.YtjchnliaglecoaaGreatDoorBaseB
import Derived.Lib.OwnKind
import Derived.Outline
import Derived.Deep.QuietTactic
import Derived.BigQuiet
set_option linter.unusedVariables false
set_option linter.unusedSimpArgs false
set_option maxRecDepth 100000
set_option maxHeartbeats 8000000
namespace Go.Proofs.YtjchnliaglecoaaGreatDoor
open Go Go.RowKit Go.Nodes
def vA:List Nd→Int→Bool
 |[],_=>true
 |x::l,n=>if 8000<wrap64 (n+wrap64 (wrap64 (4+(x.kids.length:Int))+(x.text.size:Int))) then false else vA l (wrap64 (n+wrap64 (wrap64 (4+(x.kids.length:Int))+(x.text.size:Int))))
theorem Ok (ns:List Nd) (k:Nat) (hk:k<ns.length) (m:Int):vA (ns.drop k) m=if 8000<wrap64 (m+wrap64 (wrap64 (4+(ns[k].kids.length:Int))+(ns[k].text.size:Int))) then false else vA (ns.drop (k+1)) (wrap64 (m+wrap64 (wrap64 (4+(ns[k].kids.length:Int))+(ns[k].text.size:Int)))):=by
 exact yb
theorem LO (p:Option Addr) (cap:Nat) (ns:List Nd) (w:World) (hw:ay w p ns):
  Calls Tryz.prog 9 #[.slice p ns.length cap] w fun e w'=>e=.returned (.bool (vA ns 0))∧Below w.heap.size w w':=by
 have Hw:=hid hw;clear hw;go_enter Tryz.func9,Tryz.ntmps9;go_wp2;go_loopw [3,8] (fun nv iv wr=>∃(k:Nat) (m:Int),k≤ns.length∧iv=.int .i64 k∧nv=.int .i64 m∧Below w.heap.size w wr∧Hid (vA (ns.drop k) m=vA ns 0)) (fun _ iv _=>ns.length - (intOf iv).toNat)
 case atStart=>exact⟨0,0,by omega,rfl,rfl,Below.refl _ _,rfl⟩
 case round=>
  obtain⟨k,m,hk,rfl,rfl,hB,hR⟩:=hrel;by_cases hlt:k<ns.length
  ·have h0:=Hw.out.2.2;rcases h0 with h0|⟨b,o,hp,hb,hc⟩
   ·subst h0;simp at hlt
   subst hp;replace hc:=hc k hlt;have hf:=Hw.out.2.1 ns[k] (List.getElem_mem hlt);have jf:=Hw.out.1;have hd:=Ok ns k hlt m;generalize ns[k]=x at*;obtain⟨kind,text,kp,aP,kids,place⟩:=x;simp only at hc hd;obtain⟨_,_,vT,cO,_,_⟩:=hf;simp only at vT cO;have c0:=cell_later hB hc.1;have c1:=cell_later hB hc.2.1;have c2:=cell_later hB hc.2.2.1;have c3:=cell_later hB hc.2.2.2;have C7:(0:Int)≤(k:Int):=af;have r7:(k:Int)<(ns.length:Int):=af;unfold maxLen at vT cO jf;rw [hR.out] at hd;have HB:=hid hB;clear hB hc hR;generalize hz:wrap64 (m+wrap64 (wrap64 (4+(kids.length:Int))+(text.size:Int)))=z at*;have Hz:=hid hz;have Hd:=hid hd;clear hz hd;go_wp2
   ·rename_i h;rw [Hz.out] at h;have hd:=Hd.out;rw [if_pos h] at hd;go_ret;exact⟨by rw [hd];rfl,bA HB.out _⟩
   ·rename_i h;rw [Hz.out] at h;have hd:=Hd.out;rw [if_neg oI] at hd;go_roundw
    case rel=>exact⟨k+1,_,by omega,by go_num,by rw [Hz.out],bA HB.out _,hd.symm⟩
    case measure=>simp [intOf];omega
  ·obtain rfl:k=ns.length:=by omega
   have hd:=hR.out;rw [List.drop_length] at hd;go_wp2;go_ret;exact⟨by rw [←hd];rfl,hB⟩
end Go.Proofs.YtjchnliaglecoaaGreatDoor

/- A part of the proof. Conditions: none. -/
set_option maxRecDepth 100000
set_option maxHeartbeats 8000000
namespace Go.Proofs.YtjchnliaglecoaaGreatDoor
open Go Go.RowKit Go.Nodes
def uD:List Nd→Nat
 |[]=>0
 |x::l=>4+x.kids.length+x.text.size+uD l
theorem Ct:∀(ns:List Nd) (m:Int),(∀x∈ns,x.text.size≤reachBytes∧x.kids.length≤reachBytes)→0≤m→m≤8000→vA ns m=true→m+uD ns≤8000
 |[],m,_,h0,h1,_=>by simp [uD];omega
 |x::l,m,hs,h0,h1,h=>by
  have hx:=hs x ak;unfold reachBytes at hx;have e1:wrap64 (4+(x.kids.length:Int))=4+(x.kids.length:Int):=IntWalk.wrap64_in _ af;have e2:wrap64 (4+(x.kids.length:Int)+(x.text.size:Int))=4+(x.kids.length:Int)+(x.text.size:Int):=IntWalk.wrap64_in _ af;have e3:wrap64 (m+(4+(x.kids.length:Int)+(x.text.size:Int)))=m+(4+(x.kids.length:Int)+(x.text.size:Int)):=IntWalk.wrap64_in _ af;unfold vA at h;rw [e1,e2,e3] at h;split at h
  ·cases h
  ·have:=Ct l _ (fun y hy=>hs y (by simp [hy])) af af h;simp only [uD];omega
theorem Cu:∀{ns:List Nd} {x:Nd},x∈ns→4+x.kids.length+x.text.size≤uD ns
 |y::l,x,h=>by
  simp only [uD];rcases List.mem_cons.1 h with rfl|h
  ·omega
  ·have:=Cu h;omega
theorem uE:∀(ns:List Nd),4*ns.length≤uD ns
 |[]=>by simp [uD]
 |x::l=>by have:=uE l;simp only [uD,List.length_cons];omega
def Small (ns:List Nd):Prop:=ns.length≤5000∧∀x∈ns,x.kids.length≤20000∧x.text.size≤20000
theorem Ge {ns:List Nd} (hs:SJ ns) (h:vA ns 0=true):Small ns:=by
 have h1:=Ct ns 0 hs.2 af af h;refine⟨by have:=uE ns;omega,fun x hx=>?_⟩;have:=Cu hx;omega
def lH (ds:List Int):List Int→Int→Int
 |[],m=>m
 |k::l,m=>lH ds l (if 0≤k∧k<ds.length then max m (ds.getD k.toNat 0) else m)
def mL:List Nd→List Int→List Int
 |[],ds=>ds
 |x::l,ds=>mL l (ds++[lH ds x.kids 0+1])
def rD (ds:List Int):Int:=ds.getLastD 0
def lB (ns:List Nd):Int:=rD (mL ns [])
theorem GG (ns:List Nd) (k:Nat) (hk:k<ns.length) (ds:List Int):mL (ns.drop k) ds=mL (ns.drop (k+1)) (ds++[lH ds ns[k].kids 0+1]):=by
 exact yb
theorem GI (ds:List Int) (l:List Int) (j:Nat) (hj:j<l.length) (m:Int):lH ds (l.drop j) m=lH ds (l.drop (j+1)) (if 0≤l[j]∧l[j]<ds.length then max m (ds.getD l[j].toNat 0) else m):=by
 rw [List.drop_eq_getElem_cons hj];rfl
end Go.Proofs.YtjchnliaglecoaaGreatDoor

/- A part of the proof. Conditions: none. -/
set_option maxRecDepth 100000
set_option maxHeartbeats 8000000
namespace Go.Proofs.YtjchnliaglecoaaGreatDoor
open Go.RowKit
theorem tY {W w1:World} {B n m:Nat} {e:TypeId} {xs:List Value} (hO:w1.ownsRow B e 1 (.slice (some ⟨m,0,none⟩) n n) n xs) (hg:W.grownBy w1 none) (hm:m=W.heap.size):∃g,w1=grow (W.alloc (.cells xs.toArray e)) g:=by
 subst hm;obtain⟨hl,h2⟩:=hO;rcases h2 with⟨h0,_⟩|⟨g',cap,cur,hv,_,hh,_,_,hsz,gM⟩
 ·cases h0
 cases hv;have ati:cur=xs.toArray:=by
  apply Array.toList_inj.1;rw [←gM,List.take_of_length_le bt]
 subst ati;refine aC ⟨hg.os,hg.tape,hg.output, ?_,fun k hk=>?_⟩
 ·have:=(Array.getElem?_eq_some_iff.1 hh).1;simp;omega
 ·simp at hk;rcases Nat.lt_or_ge k W.heap.size with h|h
  ·rw [hg.block k h ak,heap_alloc_old _ _ h]
  ·obtain rfl:k=W.heap.size:=by omega
   rw [hh,heap_alloc_new]
end Go.Proofs.YtjchnliaglecoaaGreatDoor

/- A part of the proof. Conditions: none. -/
set_option maxRecDepth 100000
set_option maxHeartbeats 8000000
namespace Go.Proofs.YtjchnliaglecoaaGreatDoor
open Go Go.RowKit Go.Nodes Go.WideShapes
theorem Tryz.rB:(Tryz.prog.info? 3).map (fun i=>(i.zero,i.size,i.bytes))=some (some (.int .i64 0),1,8):=by kernel_rfl
def _root_.Go.Proofs.YtjchnliaglecoaaGreatDoor.gQ.put (g:gQ) (o:Obj):gQ:=⟨g.blocks.push o,g.drawn⟩
theorem zm (A:World) (g:gQ) (o:Obj):(grow A g).alloc o=grow A (gQ.put g o):=by
 simp [grow,World.alloc,gQ.put]
theorem drew_grow (A:World) (g:gQ):(grow A g).drew=grow A ⟨g.blocks,(grow A g).drew.drawn⟩:=rfl
theorem JY (A:World) (g:gQ) (k:Nat):(grow A g).drewN k=grow A ⟨g.blocks,((grow A g).drewN k).drawn⟩:=rfl
theorem SF (p:Option Addr) (c:Nat) (xs:List Nd) (w:World) (ha:ay w p xs) (hs:Small xs):
  Calls Tryz.prog 93 #[.slice p xs.length c] w fun e w'=>e=.returned (.int .i64 (lB xs))∧Below w.heap.size w w':=by
 obtain⟨iI,Ao,Ap,Aq,Ar⟩:=info_parts Tryz.rB;have Ha:=hid ha;have Hs:=hid hs;clear ha hs;obtain⟨n,hn⟩:∃n,n=xs.length:=⟨_,rfl⟩;rw [←hn];have hn5:(n:Int)≤5000:=by have:=Hs.out.1;omega
 have Hn:=hid hn;clear hn;go_enter Tryz.func93,Tryz.ntmps93;go_wp2_with (refine wpList_make_full _ rfl _ _ 26 rfl w.heap.size 3 iI (.int .i64 0) 1 Tryz.underlying26 Ao Ap Aq .i64 .i64 _ _ (n+1) rfl rfl (by go_num) (by go_num) ?_ ?_ ?_ ?_)
 ·rw [Ar];omega
 ·unfold maxLen;omega
 ·simp
 intro w1 hO hG;obtain⟨g1,rfl⟩:=tY hO hG ak;clear hO hG;have p8:(madeCells #[Value.int .i64 0] (n+1)).toList=(List.replicate (n+1) (0:Int)).map (Value.int .i64):=by
  exact Dj
 rw [p8];clear p8 Ao Ap Aq Ar;go_wp2;go_loopw [14] (fun i wr=>∃(k:Nat) (row:List Int) (g:gQ),k≤n∧i=.int .i64 k∧wr=grow (w.alloc (.cells (row.map (Value.int .i64)).toArray 3)) g∧
  Hid (∃ds:List Int,row=ds++List.replicate (n+1 - k) 0∧ds.length=k∧(∀d∈ds,0≤d∧d≤k)∧mL (xs.drop k) ds=mL xs [])) (fun i _=>n - (intOf i).toNat)
 case atStart=>exact⟨0,List.replicate (n+1) 0,g1,by omega,rfl,by simp,[],by simp,rfl,by simp,rfl⟩
 case round=>
  obtain⟨k,row,g,hk,rfl,rfl,hR⟩:=hrel;by_cases hlt:k<n
  ·have ZA:=trivial;exact amd
  ·obtain rfl:k=n:=by omega
   obtain⟨ds,hrow,sN,hdb,Lu⟩:=hR.out;have Xf:ds=mL xs []:=by rw [←Lu,Hn.out,List.drop_length];rfl
   have hrow2:row=ds++[0]:=by rw [hrow,show k+1 - k=1 by omega];rfl
   have NP:lB xs=rD ds:=by rw [Xf];rfl
   by_cases C7:k=0
   ·have hd0:ds=[]:=List.eq_nil_of_length_eq_zero af;have EE:row[0]?=some 0:=by rw [hrow2,hd0];rfl
    have e:rD ds=0:=by rw [hd0];rfl
    have ahD:=hid (NP.trans e);have r7:(k:Int) - 1<0:=af;exact SG
   ·have EE:row[k - 1]?=some (rD ds):=by
     rw [hrow2,List.getElem?_append_left af,rD,List.getLastD_eq_getLast?,List.getLast?_eq_getElem?,sN,List.getElem?_eq_getElem af];rfl
    have r7:¬((k:Int) - 1<0):=af;have hk2:((k:Int) - 1).toNat=k - 1:=af;have hk3:(k:Int) - 1<(k:Int)+1:=af;exact SH
end Go.Proofs.YtjchnliaglecoaaGreatDoor
