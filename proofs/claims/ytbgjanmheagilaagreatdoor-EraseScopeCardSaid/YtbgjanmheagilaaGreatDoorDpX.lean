/- A part of the proof. Conditions: none. -/
import Derived.Test.YtbgjanmheagilaaGreatDoorZz
import Derived.Test.YtbgjanmheagilaaGreatDoorNodes
import Derived.Test.YtbgjanmheagilaaGreatDoorBase
import Derived.Test.YtbgjanmheagilaaGreatDoorProg
import Derived.Test.YtbgjanmheagilaaGreatDoorNodesB
set_option linter.unusedVariables false
set_option linter.unusedSimpArgs false
set_option maxRecDepth 100000
set_option maxHeartbeats 8000000
namespace Go.Proofs.YtbgjanmheagilaaGreatDoor
open Go Go.RowKit Go.Nodes
def sX:List Nd→Int→Bool
 |[],_=>true
 |x::l,n=>if 8000<wrap64 (n+wrap64 (wrap64 (4+(x.kids.length:Int))+(x.text.size:Int))) then false else sX l (wrap64 (n+wrap64 (wrap64 (4+(x.kids.length:Int))+(x.text.size:Int))))
theorem Ie (ns:List Nd) (k:Nat) (hk:k<ns.length) (m:Int):sX (ns.drop k) m=if 8000<wrap64 (m+wrap64 (wrap64 (4+(ns[k].kids.length:Int))+(ns[k].text.size:Int))) then false else sX (ns.drop (k+1)) (wrap64 (m+wrap64 (wrap64 (4+(ns[k].kids.length:Int))+(ns[k].text.size:Int)))):=by
 exact uy
theorem Qi (p:Option Addr) (cap:Nat) (ns:List Nd) (w:World) (hw:aj w p ns):
  Calls Tryz.prog 9 #[.slice p ns.length cap] w fun e w'=>e=.returned (.bool (sX ns 0))∧Below w.heap.size w w':=by
 have Hw:=hid hw;clear hw;go_enter Tryz.func9,Tryz.ntmps9;go_wp2;go_loopw [3,8] (fun nv iv wr=>∃(k:Nat) (m:Int),k≤ns.length∧iv=.int .i64 k∧nv=.int .i64 m∧Below w.heap.size w wr∧Hid (sX (ns.drop k) m=sX ns 0)) (fun _ iv _=>ns.length - (intOf iv).toNat)
 case atStart=>exact⟨0,0,by omega,rfl,rfl,Below.refl _ _,rfl⟩
 case round=>
  obtain⟨k,m,hk,rfl,rfl,hB,hR⟩:=hrel;by_cases hlt:k<ns.length
  ·have h0:=Hw.out.2.2;rcases h0 with h0|⟨b,o,hp,hb,hc⟩
   ·subst h0;simp at hlt
   subst hp;replace hc:=hc k hlt;have hf:=Hw.out.2.1 ns[k] (List.getElem_mem hlt);have dW:=Hw.out.1;have hd:=Ie ns k hlt m;generalize ns[k]=x at*;obtain⟨kind,text,kp,aC,kids,place⟩:=x;simp only at hc hd;obtain⟨_,_,yS,eM,_,_⟩:=hf;simp only at yS eM;have c0:=cell_later hB hc.1;have c1:=cell_later hB hc.2.1;have c2:=cell_later hB hc.2.2.1;have c3:=cell_later hB hc.2.2.2;have JM:(0:Int)≤(k:Int):=aa;have tD:(k:Int)<(ns.length:Int):=aa;unfold maxLen at yS eM dW;rw [hR.out] at hd;have HB:=hid hB;clear hB hc hR;generalize hz:wrap64 (m+wrap64 (wrap64 (4+(kids.length:Int))+(text.size:Int)))=z at*;have Hz:=hid hz;have Hd:=hid hd;clear hz hd;go_wp2
   ·rename_i h;rw [Hz.out] at h;have hd:=Hd.out;rw [if_pos h] at hd;go_ret;exact⟨by rw [hd];rfl,bA HB.out _⟩
   ·rename_i h;rw [Hz.out] at h;have hd:=Hd.out;rw [if_neg kV] at hd;go_roundw
    case rel=>exact⟨k+1,_,by omega,by go_num,by rw [Hz.out],bA HB.out _,hd.symm⟩
    case measure=>simp [intOf];omega
  ·obtain rfl:k=ns.length:=by omega
   have hd:=hR.out;rw [List.drop_length] at hd;go_wp2;go_ret;exact⟨by rw [←hd];rfl,hB⟩
end Go.Proofs.YtbgjanmheagilaaGreatDoor
/- A part of the proof. Conditions: none. -/
set_option maxRecDepth 100000
set_option maxHeartbeats 8000000
namespace Go.Proofs.YtbgjanmheagilaaGreatDoor
open Go Go.RowKit Go.Nodes
def qq:List Nd→Nat
 |[]=>0
 |x::l=>4+x.kids.length+x.text.size+qq l
theorem yJ:∀(ns:List Nd) (m:Int),(∀x∈ns,x.text.size≤reachBytes∧x.kids.length≤reachBytes)→0≤m→m≤8000→sX ns m=true→m+qq ns≤8000
 |[],m,_,h0,h1,_=>by simp [qq];omega
 |x::l,m,hs,h0,h1,h=>by
  have hx:=hs x ai;unfold reachBytes at hx;have e1:wrap64 (4+(x.kids.length:Int))=4+(x.kids.length:Int):=IntWalk.wrap64_in _ aa;have e2:wrap64 (4+(x.kids.length:Int)+(x.text.size:Int))=4+(x.kids.length:Int)+(x.text.size:Int):=IntWalk.wrap64_in _ aa;have e3:wrap64 (m+(4+(x.kids.length:Int)+(x.text.size:Int)))=m+(4+(x.kids.length:Int)+(x.text.size:Int)):=IntWalk.wrap64_in _ aa;unfold sX at h;rw [e1,e2,e3] at h;split at h
  ·cases h
  ·have:=yJ l _ (fun y hy=>hs y (by simp [hy])) aa aa h;simp only [qq];omega
theorem yK:∀{ns:List Nd} {x:Nd},x∈ns→4+x.kids.length+x.text.size≤qq ns
 |y::l,x,h=>by
  simp only [qq];rcases List.mem_cons.1 h with rfl|h
  ·omega
  ·have:=yK h;omega
theorem qs:∀(ns:List Nd),4*ns.length≤qq ns
 |[]=>by simp [qq]
 |x::l=>by have:=qs l;simp only [qq,List.length_cons];omega
def Small (ns:List Nd):Prop:=ns.length≤5000∧∀x∈ns,x.kids.length≤20000∧x.text.size≤20000
theorem CM {ns:List Nd} (hs:PW ns) (h:sX ns 0=true):Small ns:=by
 have h1:=yJ ns 0 hs.2 aa aa h;refine⟨by have:=qs ns;omega,fun x hx=>?_⟩;have:=yK hx;omega
def cQ (ds:List Int):List Int→Int→Int
 |[],m=>m
 |k::l,m=>cQ ds l (if 0≤k∧k<ds.length then max m (ds.getD k.toNat 0) else m)
def bM:List Nd→List Int→List Int
 |[],ds=>ds
 |x::l,ds=>bM l (ds++[cQ ds x.kids 0+1])
def lW (ds:List Int):Int:=ds.getLastD 0
def eD (ns:List Nd):Int:=lW (bM ns [])
theorem Cx (ns:List Nd) (k:Nat) (hk:k<ns.length) (ds:List Int):bM (ns.drop k) ds=bM (ns.drop (k+1)) (ds++[cQ ds ns[k].kids 0+1]):=by
 exact uy
theorem CC (ds:List Int) (l:List Int) (j:Nat) (hj:j<l.length) (m:Int):cQ ds (l.drop j) m=cQ ds (l.drop (j+1)) (if 0≤l[j]∧l[j]<ds.length then max m (ds.getD l[j].toNat 0) else m):=by
 rw [List.drop_eq_getElem_cons hj];rfl
end Go.Proofs.YtbgjanmheagilaaGreatDoor