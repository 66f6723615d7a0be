/- A part of the proof. Conditions: none. -/
import Derived.Test.YtjchnliaglecoaaGreatDoorZz
import Derived.Test.YtjchnliaglecoaaGreatDoorNodesB
import Derived.Test.YtjchnliaglecoaaGreatDoorBase
import Derived.Test.YtjchnliaglecoaaGreatDoorProg
set_option linter.unusedVariables false
set_option linter.unusedSimpArgs false
set_option maxRecDepth 100000
set_option maxHeartbeats 8000000
namespace Go.Proofs.YtjchnliaglecoaaGreatDoor
open Go Go.RowKit Go.Nodes
def vL:List Nd→Int→Bool
 |[],_=>true
 |x::l,n=>if 4000<wrap64 (n+wrap64 (wrap64 (4+(x.kids.length:Int))+(x.text.size:Int))) then false else vL l (wrap64 (n+wrap64 (wrap64 (4+(x.kids.length:Int))+(x.text.size:Int))))
theorem IK (ns:List Nd) (k:Nat) (hk:k<ns.length) (m:Int):vL (ns.drop k) m=if 4000<wrap64 (m+wrap64 (wrap64 (4+(ns[k].kids.length:Int))+(ns[k].text.size:Int))) then false else vL (ns.drop (k+1)) (wrap64 (m+wrap64 (wrap64 (4+(ns[k].kids.length:Int))+(ns[k].text.size:Int)))):=by
 exact uq
theorem P2 (p:Option Addr) (cap:Nat) (ns:List Nd) (w:World) (hw:aA w p ns):
  Calls Tryz.prog 20 #[.slice p ns.length cap] w fun e w'=>e=.returned (.bool (vL ns 0))∧Below w.heap.size w w':=by
 have Hw:=hid hw;clear hw;go_enter Tryz.func20,Tryz.ntmps20;go_wp2;go_loopw [3,8] (fun nv iv wr=>∃(k:Nat) (m:Int),k≤ns.length∧iv=.int .i64 k∧nv=.int .i64 m∧Below w.heap.size w wr∧Hid (vL (ns.drop k) m=vL ns 0)) (fun _ iv _=>ns.length - (intOf iv).toNat)
 case atStart=>exact⟨0,0,by omega,rfl,rfl,Below.refl _ _,rfl⟩
 case round=>
  obtain⟨k,m,hk,rfl,rfl,hB,hR⟩:=hrel;by_cases hlt:k<ns.length
  ·have h0:=Hw.out.2.2;rcases h0 with h0|⟨b,o,hp,hb,hc⟩
   ·subst h0;simp at hlt
   subst hp;replace hc:=hc k hlt;have hf:=Hw.out.2.1 ns[k] (List.getElem_mem hlt);have gD:=Hw.out.1;have hd:=IK ns k hlt m;generalize ns[k]=x at*;obtain⟨kind,text,kp,aG,kids,place⟩:=x;simp only at hc hd;obtain⟨_,_,wj,gq,_,_⟩:=hf;simp only at wj gq;have c0:=cell_later hB hc.1;have c1:=cell_later hB hc.2.1;have c2:=cell_later hB hc.2.2.1;have c3:=cell_later hB hc.2.2.2;have QI:(0:Int)≤(k:Int):=aa;have aR:(k:Int)<(ns.length:Int):=aa;unfold maxLen at wj gq gD;rw [hR.out] at hd;have HB:=hid hB;clear hB hc hR;generalize hz:wrap64 (m+wrap64 (wrap64 (4+(kids.length:Int))+(text.size:Int)))=z at*;have Hz:=hid hz;have Hd:=hid hd;clear hz hd;go_wp2
   ·rename_i h;rw [Hz.out] at h;have hd:=Hd.out;rw [if_pos h] at hd;go_ret;exact⟨by rw [hd];rfl,bA HB.out _⟩
   ·rename_i h;rw [Hz.out] at h;have hd:=Hd.out;rw [if_neg kO] at hd;go_roundw
    case rel=>exact⟨k+1,_,by omega,by go_num,by rw [Hz.out],bA HB.out _,hd.symm⟩
    case measure=>simp [intOf];omega
  ·obtain rfl:k=ns.length:=by omega
   have hd:=hR.out;rw [List.drop_length] at hd;go_wp2;go_ret;exact⟨by rw [←hd];rfl,hB⟩
def qs:List Nd→Nat
 |[]=>0
 |x::l=>4+x.kids.length+x.text.size+qs l
theorem yg:∀(ns:List Nd) (m:Int),(∀x∈ns,x.text.size≤reachBytes∧x.kids.length≤reachBytes)→0≤m→m≤4000→vL ns m=true→m+qs ns≤4000
 |[],m,_,h0,h1,_=>by simp [qs];omega
 |x::l,m,hs,h0,h1,h=>by
  have hx:=hs x ak;unfold reachBytes at hx;have e1:wrap64 (4+(x.kids.length:Int))=4+(x.kids.length:Int):=IntWalk.wrap64_in _ aa;have e2:wrap64 (4+(x.kids.length:Int)+(x.text.size:Int))=4+(x.kids.length:Int)+(x.text.size:Int):=IntWalk.wrap64_in _ aa;have e3:wrap64 (m+(4+(x.kids.length:Int)+(x.text.size:Int)))=m+(4+(x.kids.length:Int)+(x.text.size:Int)):=IntWalk.wrap64_in _ aa;unfold vL at h;rw [e1,e2,e3] at h;split at h
  ·cases h
  ·have:=yg l _ (fun y hy=>hs y (by simp [hy])) aa aa h;simp only [qs];omega
theorem yh:∀{ns:List Nd} {x:Nd},x∈ns→4+x.kids.length+x.text.size≤qs ns
 |y::l,x,h=>by
  simp only [qs];rcases List.mem_cons.1 h with rfl|h
  ·omega
  ·have:=yh h;omega
theorem qu:∀(ns:List Nd),4*ns.length≤qs ns
 |[]=>by simp [qs]
 |x::l=>by have:=qu l;simp only [qs,List.length_cons];omega
theorem EL {ns:List Nd} (hs:Tl ns) (h:vL ns 0=true):ns.length≤1000∧∀x∈ns,x.kids.length≤4000∧x.text.size≤4000:=by
 have h1:=yg ns 0 hs.2 aa aa h;refine⟨by have:=qu ns;omega,fun x hx=>?_⟩;have:=yh hx;omega
end Go.Proofs.YtjchnliaglecoaaGreatDoor