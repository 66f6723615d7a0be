/- A part of the proof. Conditions: none. -/
import Derived.Test.YtbgjanmheagilaaGreatDoorZz
import Derived.Test.YtbgjanmheagilaaGreatDoorFm
import Derived.Deep.QuietTactic
import Derived.BigQuiet
import Derived.Test.YtbgjanmheagilaaGreatDoorBaseB
import Derived.Test.YtbgjanmheagilaaGreatDoorAmSX
set_option linter.unusedVariables false
set_option linter.unusedSimpArgs false
set_option maxRecDepth 100000
set_option maxHeartbeats 8000000
namespace Go.Proofs.YtbgjanmheagilaaGreatDoor
open Go Go.RowKit Go.Nodes
structure dU (L N:Nat) (s s':Fs):Prop where
 inv:eF L s'
 f0:s.funcs.length≤s'.funcs.length
 f1:s'.funcs.length≤s.funcs.length+N
 v0:s.vars.length≤s'.vars.length
 v1:s'.vars.length≤s.vars.length+N
 seen:s.seen.length≤s'.seen.length
theorem dU.refl {L:Nat} {s:Fs} (h:eF L s) (N:Nat):dU L N s s:=⟨h,Nat.le_refl _,by omega,Nat.le_refl _,by omega,Nat.le_refl _⟩
theorem dU.trans {L M N:Nat} {a b c:Fs} (h:dU L M a b) (k:dU L N b c):dU L (M+N) a c:=
 ⟨k.inv,Nat.le_trans h.f0 k.f0,by have:=h.f1;have:=k.f1;omega,Nat.le_trans h.v0 k.v0,by have:=h.v1;have:=k.v1;omega,Nat.le_trans h.seen k.seen⟩
theorem dU.le {L M N:Nat} {a b:Fs} (h:dU L M a b) (hMN:M≤N):dU L N a b:=⟨h.inv,h.f0,by have:=h.f1;omega,h.v0,by have:=h.v1;omega,h.seen⟩
theorem xG {L:Nat} {s:Fs} (h:eF L s) (n e:Int):eF L (bt s n e):=by
 unfold bt;split
 ·exact⟨h.uses,h.seen,h.nodes,h.few,h.many,h.jh,h.counts⟩
 ·exact h
theorem dK (s:Fs) (n e:Int):(bt s n e).vars=s.vars∧(bt s n e).uses=s.uses∧(bt s n e).funcs=s.funcs∧(bt s n e).jh=s.jh∧(bt s n e).seen=s.seen∧(bt s n e).many=s.many:=by
 unfold bt;split<;>exact⟨rfl,rfl,rfl,rfl,rfl,rfl⟩
theorem rD {L:Nat} {s:Fs} (h:eF L s) (n e:Int) (N:Nat):dU L N s (bt s n e):=by
 obtain⟨h1,_,h2,_,h3,_⟩:=dK s n e;exact⟨xG h n e,by rw [h2];exact Nat.le_refl _,by rw [h2];omega,by rw [h1];exact Nat.le_refl _,by rw [h1];omega,by rw [h3];exact Nat.le_refl _⟩
theorem mB {L:Nat} {s:Fs} (h:eF L s) (ns:List Nd) (n fn:Int) (hn:0≤n∧n<L):dU L 1 s (eE ns s n fn):=by
 have key:∀(s0:Fs),s0.vars=s.vars→s0.uses=s.uses→s0.funcs=s.funcs→s0.jh=s.jh→s0.seen=s.seen→(∀m∈s0.many,0≤m∧m≤s.vars.length+1)→s0.many.length=s.funcs.length→dU L 1 s (lC s0 n fn):=by
  intro s0 e1 e2 e3 e4 e5 e6 e7;have hl:(lC s0 n fn).vars.length=s.vars.length+1:=by simp [lC,e1]
  refine⟨⟨?_, ?_, ?_, ?_, ?_, ?_, ?_⟩, ?_, ?_, ?_, ?_, ?_⟩
  ·simp [lC,e2,h.uses]
  ·intro v hv;rw [hl];simp only [lC,e5,e1,List.mem_append,List.mem_singleton] at hv;rcases hv with hv|hv
   ·have:=h.seen v hv;omega
   ·subst hv;omega
  ·intro x hx;simp only [lC,e1,List.mem_append,List.mem_singleton] at hx;rcases hx with hx|hx
   ·exact h.nodes x hx
   ·subst hx;exact hn
  ·rw [hl];simp only [lC,e5,List.length_append,List.length_singleton];have:=h.few;omega
  ·show s0.many.length=s0.funcs.length;rw [e7,e3]
  ·show s0.jh.length=s0.funcs.length;rw [e4,e3];exact h.jh
  ·intro m hm;rw [hl];have:=e6 m hm;omega
  ·show s.funcs.length≤s0.funcs.length;rw [e3];exact Nat.le_refl _
  ·show s0.funcs.length≤_;rw [e3];omega
  ·rw [hl];omega
  ·rw [hl];exact Nat.le_refl _
  ·simp only [lC,e5,List.length_append,List.length_singleton];omega
 unfold eE;simp only;have hb:∀(s0:Fs),s0.many=s.many→∀m∈(cG s0 fn).many,0≤m∧m≤s.vars.length+1:=by
  intro s0 e m hm;simp only [cG,e] at hm;rcases List.mem_or_eq_of_mem_set hm with hm|hm
  ·have:=h.counts m hm;omega
  ·subst hm;by_cases hlt:fn.toNat<s.many.length
   ·have:=h.counts _ (List.getElem_mem hlt);rw [List.getD_eq_getElem?_getD,List.getElem?_eq_getElem hlt];simp only [Option.getD_some];omega
   ·rw [List.getD_eq_getElem?_getD,List.getElem?_eq_none aa];simp;omega
 have hbl:∀(s0:Fs),s0.many=s.many→(cG s0 fn).many.length=s.funcs.length:=fun s0 e=>by simp [cG,e,h.many]
 obtain⟨t,ht,a1,a2,a3,a4,a5,a6⟩:∃t,t=(if 0≤bn (gN ns n) then bt s n 110 else s)∧t.vars=s.vars∧t.uses=s.uses∧t.funcs=s.funcs∧t.jh=s.jh∧t.seen=s.seen∧t.many=s.many:=by
  refine⟨_,rfl, ?_⟩;split
  ·exact dK s n 110
  ·exact⟨rfl,rfl,rfl,rfl,rfl,rfl⟩
 rw [←ht];split
 ·obtain⟨b1,b2,b3,b4,b5,b6⟩:=dK (cG t fn) n 2;exact key _ (b1.trans a1) (b2.trans a2) (b3.trans a3) (b4.trans a4) (b5.trans a5) (by rw [b6];exact hb t a6) (by rw [b6];exact hbl t a6)
 ·exact key _ a1 a2 a3 a4 a5 (hb t a6) (hbl t a6)
theorem I3 {L:Nat} {s:Fs} (h:eF L s) (n v fn:Int) (set:Bool) (N:Nat):dU L N s (fk s n v fn set):=by
 have hl:(fk s n v fn set).vars.length=s.vars.length:=by simp [fk]
 refine⟨⟨by simp [fk,h.uses],fun w hw=>by rw [hl];exact h.seen w hw,fun x hx=>?_,by rw [hl];exact h.few,h.many,h.jh,fun m hm=>by rw [hl];exact h.counts m hm⟩,Nat.le_refl _,by show s.funcs.length≤_;omega,by omega,by omega,Nat.le_refl _⟩;simp only [fk] at hx;obtain⟨i,hi,rfl⟩:=List.getElem_of_mem hx;rw [List.getElem_modify];have Iq:i<s.vars.length:=by simpa using hi
 split
 ·exact h.nodes s.vars[i] (List.getElem_mem Iq)
 ·exact h.nodes s.vars[i] (List.getElem_mem Iq)
theorem vt {L:Nat} {s:Fs} (h:eF L s) (ns:List Nd) (n fn:Int) (set:Bool) (N:Nat):dU L N s (jy ns s n fn set):=by
 unfold jy;split
 ·exact I3 h _ _ _ _ _
 ·exact rD h _ _ _
theorem vz {L:Nat} (ns:List Nd) (k:Int):∀(pre:List Int) {s:Fs},eF L s→dU L 0 s (pre.foldl (fun s m=>if gN ns k==gN ns m then bt s k 110 else s) s)
 |[],s,h=>dU.refl h 0
 |m::pre,s,h=>by
  rw [List.foldl_cons];have h1:dU L 0 s (if gN ns k==gN ns m then bt s k 110 else s):=by
   split
   ·exact rD h _ _ _
   ·exact dU.refl h 0
  exact h1.trans (vz ns k pre h1.inv)
theorem mC {L:Nat} (ns:List Nd) (fn:Int):∀(ks pre:List Int) {s:Fs},eF L s→(∀k∈ks,0≤k∧k<(L:Int))→dU L ks.length s (cS ns fn pre ks s)
 |[],_,s,h,_=>dU.refl h _
 |k::ks,pre,s,h,hk=>by
  unfold cS;have h1:=vz ns k pre h;have h2:=mB h1.inv ns k fn (hk k ai);have h3:=mC ns fn ks (pre++[k]) h2.inv (fun q hq=>hk q (by simp [hq]));refine((h1.trans h2).trans h3).le ?_;simp only [List.length_cons];omega
theorem Cu {L N:Nat} {s s1:Fs} (h:dU L N s s1):dU L N s {s1 with seen:=s1.seen.take s.seen.length}:=
 ⟨⟨h.inv.uses,fun v hv=>h.inv.seen v (List.mem_of_mem_take hv),h.inv.nodes,by show(s1.seen.take s.seen.length).length≤s1.vars.length;rw [List.length_take];have:=h.inv.few;omega,h.inv.many,h.inv.jh,h.inv.counts⟩,h.f0,h.f1,h.v0,h.v1,by show _≤(s1.seen.take s.seen.length).length;rw [List.length_take];have:=h.seen;omega⟩
def fW (s:Fs) (n up:Int):Fs:={s with funcs:=s.funcs++[n],jh:=s.jh++[up],many:=s.many++[0]}
theorem uJ {L:Nat} {s:Fs} (h:eF L s) (n up:Int):dU L 1 s (fW s n up):=by
 refine⟨⟨h.uses,h.seen,h.nodes,h.few, ?_, ?_, ?_⟩, ?_, ?_,Nat.le_refl _,by show s.vars.length≤_;omega,Nat.le_refl _⟩
 ·simp [fW,h.many]
 ·simp [fW,h.jh]
 ·intro m hm;simp only [fW,List.mem_append,List.mem_singleton] at hm;rcases hm with hm|hm
  ·exact h.counts m hm
  ·subst hm;show 0≤(0:Int)∧(0:Int)≤(s.vars.length:Int);omega
 ·simp [fW]
 ·simp [fW]
def wI (ns:List Nd) (l:List Int):Nat:=(l.map fun k=>wt ns k.toNat).sum
theorem oL {ns:List Nd} (ha:cN ns) (n:Nat):1≤wt ns n:=by rw [Nh ha];omega
theorem gY {ns:List Nd} (ha:cN ns):∀l:List Int,l.length≤wI ns l
 |[]=>Nat.le_refl _
 |k::l=>by
  have h1:=oL ha k.toNat;have h2:=gY ha l;simp only [wI,List.map_cons,List.sum_cons,List.length_cons] at*;omega
theorem Gw (ns:List Nd) (a b:List Int):wI ns (a++b)=wI ns a+wI ns b:=by simp [wI]
theorem dJ {ns:List Nd}:∀(l:List Int) (i:Nat) (h:i<l.length),wI ns (l.take i)+wt ns (l[i]).toNat≤wI ns l
 |k::l,0,h=>by simp [wI]
 |k::l,i+1,h=>by
  have:=dJ (ns:=ns) l i kV;simp only [wI,List.take_succ_cons,List.map_cons,List.sum_cons,List.getElem_cons_succ] at*;omega
theorem ye (ns:List Nd) (n:Int):aF ns n=kL ns n:=by
 unfold aF kL;cases ns[n.toNat]?<;>rfl
structure Tree (ns:List Nd):Prop where
 ahead:cN ns
 pre:iZ ns ns.length
theorem gW {ns:List Nd} (ht:Tree ns) {n:Int} (h0:0≤n):∀k∈aF ns n,0≤k∧k<n:=by
 rw [ye];exact ht.ahead n h0
theorem gX {ns:List Nd} (ht:Tree ns) (n:Nat):wt ns n=1+wI ns (aF ns (n:Int)):=by
 rw [Nh ht.ahead,ye];rfl
theorem qL {ns:List Nd} (ht:Tree ns) {n:Nat} (hn:n<ns.length):∃x,ns[n]?=some x∧ag ns (n:Int)=x.kind∧aF ns (n:Int)=x.kids∧B2 ns n x:=by
 refine⟨ns[n],List.getElem?_eq_getElem hn,aR (List.getElem?_eq_getElem hn), ?_,ht.pre n _ hn (List.getElem?_eq_getElem hn)⟩;unfold aF;rw [Int.toNat_natCast,List.getElem?_eq_getElem hn]
theorem gJ {ns:List Nd} (ht:Tree ns) {n:Nat} (hn:n<ns.length) {k:Int} (hk:ag ns (n:Int)=k) (hc:k=4∨k=6∨k=9∨k=22):2≤(aF ns (n:Int)).length:=by
 obtain⟨x,hx,h1,h2,hv⟩:=qL ht hn;have hf:=hv.fits;have hl:(aO ns x.kids).length=x.kids.length:=by simp [aO]
 rw [h2,←hl];rw [h1] at hk;rw [hk] at hf;rcases hc with h|h|h|h
 all_goals
  rw [h] at hf;have:=gF hf ay;exact Nat.le_trans ay this
theorem Cp {ns:List Nd} (ht:Tree ns) {n:Nat} (hn:n<ns.length) (hk:ag ns (n:Int)=5):1≤(aF ns (n:Int)).length:=by
 obtain⟨x,hx,h1,h2,hv⟩:=qL ht hn;exact UN
theorem fG {l:List Int} {i:Nat} (h:i<l.length):l.getD i 0=l[i]:=by rw [List.getD_eq_getElem?_getD,List.getElem?_eq_getElem h];rfl
theorem I4 {ns:List Nd} (ht:Tree ns) {node:Int→Int→Bool→Fs→Fs} {n:Nat} (hn:n<ns.length) (h2:2≤(aF ns (n:Int)).length) {s:Fs} (h:eF ns.length s) (up:Int)
  (hN:∀(q:Int) (fn:Int) (loop:Bool) (s:Fs),eF ns.length s→0≤q→q<n→dU ns.length (wt ns q.toNat) s (node q fn loop s)):dU ns.length (wt ns n) s (pK ns node n up s):=by
 unfold pK;simp only;have hk:=gW ht (n:=(n:Int)) aa;have wO:=gX ht n;generalize aF ns (n:Int)=kids at*;have g1:=uJ h (n:Int) up;have g2:=mC ns (s.funcs.length:Int) (kids.take (kids.length - 2)) [] g1.inv (fun q hq=>by have:=hk q (List.mem_of_mem_take hq);omega);have hl:kids.length - 1<kids.length:=aa;have hq:=hk _ (List.getElem_mem hl);have g3:=hN (kids.getD (kids.length - 1) 0) s.funcs.length false _ g2.inv (by rw [fG hl];exact hq.1) (by rw [fG hl];exact hq.2);refine(Cu ((g1.trans g2).trans g3)).le ?_;have e1:=dJ (ns:=ns) kids (kids.length - 1) hl;have e2:=gY ht.ahead (kids.take (kids.length - 2));have e3:wI ns (kids.take (kids.length - 2))≤wI ns (kids.take (kids.length - 1)):=by
  have:kids.take (kids.length - 2)=(kids.take (kids.length - 1)).take (kids.length - 2):=by rw [List.take_take,Nat.min_eq_left aa]
  rw [this];have:=Gw ns ((kids.take (kids.length - 1)).take (kids.length - 2)) ((kids.take (kids.length - 1)).drop (kids.length - 2));rw [List.take_append_drop] at this;omega
 rw [fG hl];omega
theorem iy {ns:List Nd} (ht:Tree ns):∀(k n:Nat) (fn:Int) (loop:Bool) (s:Fs),n<k→n<ns.length→eF ns.length s→dU ns.length (wt ns n) s (aH ns k n fn loop s)
 |0,n,_,_,_,h,_,_=>absurd h aa
 |k+1,n,fn,loop,s,Lt,hn,h=>by
  have ih:∀(q:Int) (fn:Int) (loop:Bool) (s:Fs),eF ns.length s→0≤q→q<n→dU ns.length (wt ns q.toNat) s (aH ns k q fn loop s):=fun q fn loop s hs h0 h1=>by
   obtain⟨m,rfl⟩:∃m:Nat,q=m:=⟨q.toNat,by omega⟩;have:=iy ht k m fn loop s aa aa hs;simpa using this
  have hk:=gW ht (n:=(n:Int)) aa;have wO:=gX ht n;unfold aH;split
  ·exact dU.refl h _
  simp only;split
  ·exact vt h ns n fn false _
  split
  ·split
   ·exact dU.refl h _
   ·exact rD h _ _ _
  split
  ·rename_i agD;exact I4 ht hn (gJ ht hn agD ai) h fn ih
  split
  ·rename_i hk4;have h2:=gJ ht hn hk4 ai;generalize aF ns (n:Int)=kids at*;have EN:1<kids.length:=aa;have hq:=hk _ (List.getElem_mem EN);have e1:=dJ (ns:=ns) kids 1 EN;rw [fG EN];have g1:=ih _ fn loop s h hq.1 hq.2;split
   ·exact(g1.trans (mB g1.inv ns n fn aa)).le aa
   ·exact g1.le aa
  split
  ·rename_i hk5;have h2:=Cp ht hn hk5;generalize aF ns (n:Int)=kids at*;have EN:0<kids.length:=aa;have hq:=hk _ (List.getElem_mem EN);have e1:=dJ (ns:=ns) kids 0 EN;rw [fG EN];have g1:=mB h ns n fn aa;exact(g1.trans (ih _ fn loop _ g1.inv hq.1 hq.2)).le aa
  split
  ·rename_i hk6;have h2:=gJ ht hn hk6 ai;generalize aF ns (n:Int)=kids at*;have EN:1<kids.length:=aa;have h0l:0<kids.length:=aa;have hq:=hk _ (List.getElem_mem EN);have Sj:=hk _ (List.getElem_mem h0l);have e1:=dJ (ns:=ns) kids 1 EN;have e0:=dJ (ns:=ns) (kids.take 1) 0 pP;rw [List.getElem_take] at e0;rw [fG EN,fG h0l];have g0:dU ns.length (wt ns (kids[0]).toNat) s (if ag ns kids[0]=17 then jy ns s kids[0] fn true else aH ns k kids[0] fn loop s):=by
    split
    ·exact vt h ns _ fn true _
    ·exact ih _ fn loop s h Sj.1 Sj.2
   exact(g0.trans (ih _ fn loop _ g0.inv hq.1 hq.2)).le aa
  split
  ·rename_i hk9;have h2:=gJ ht hn hk9 ai;generalize aF ns (n:Int)=kids at*;have EN:1<kids.length:=aa;have h0l:0<kids.length:=aa;have hq:=hk _ (List.getElem_mem EN);have Sj:=hk _ (List.getElem_mem h0l);have e1:=dJ (ns:=ns) kids 1 EN;have e0:=dJ (ns:=ns) (kids.take 1) 0 pP;rw [List.getElem_take] at e0;rw [fG EN,fG h0l];have g0:=ih _ fn loop s h Sj.1 Sj.2;exact(g0.trans (ih _ fn true _ g0.inv hq.1 hq.2)).le aa
  ·generalize aF ns (n:Int)=kids at*;have g:∀(l:List Int),(∀q∈l,0≤q∧q<(n:Int))→∀{s:Fs},eF ns.length s→dU ns.length (wI ns l) s (l.foldl (fun s q=>aH ns k q fn loop s) s):=by
    intro l
    induction l with
    |nil=>intro _ s hs;exact dU.refl hs _
    |cons q l ihl=>
     intro hl s hs;rw [List.foldl_cons];have h1:=ih q fn loop s hs (hl q ai).1 (hl q ai).2;exact(h1.trans (ihl (fun r hr=>hl r (by simp [hr])) h1.inv)).le (by simp [wI])
   have g1:=g kids hk h;split
   ·exact(Cu g1).le aa
   ·exact g1.le aa
end Go.Proofs.YtbgjanmheagilaaGreatDoor
/- A part of the proof. Conditions: none. -/
set_option maxRecDepth 100000
set_option maxHeartbeats 8000000
namespace Go.Proofs.YtbgjanmheagilaaGreatDoor
open Go Go.RowKit Go.Nodes
def cA (FB:Nat) (w w':World):Prop:=∀g cs t,w.heap[g]?=some (.cells cs t (0,0))→t≠3→t≠37→g≠FB→w'.heap[g]?=some (.cells cs t (0,0))
theorem cA.refl (FB:Nat) (w:World):cA FB w w:=fun _ _ _ h _ _ _=>h
theorem cA.trans {FB:Nat} {a b c:World} (h:cA FB a b) (k:cA FB b c):cA FB a c:=fun g cs t h1 h2 h3 h4=>k g cs t (h g cs t h1 h2 h3 h4) h2 h3 h4
theorem bW {FB:Nat} {w w':World} (hb:Below w.heap.size w w'):cA FB w w':=fun g cs t h1 _ _ _=>by rw [hb.block g (Array.getElem?_eq_some_iff.1 h1).1];exact h1
theorem cE {FB:Nat} {w:World} (i:Nat) (x:Value):cA FB w (w.setCell ⟨FB,i,none⟩ x):=fun g cs t h1 _ _ h4=>by rw [Below.heap_setCell _ _ _ _ (by simpa using h4)];exact h1
structure FP (FB:Nat) (p:Option Addr) (c L:Nat) (s:Fs) (w w':World):Prop where
 wH:Lr FB p c L w' s
 below:Below FB w w'
 keep:cA FB w w'
 size:w.heap.size≤w'.heap.size
theorem FP.trans {FB c L:Nat} {p:Option Addr} {s s':Fs} {a b d:World} (h:FP FB p c L s a b) (k:FP FB p c L s' b d):FP FB p c L s' a d:=⟨k.wH,h.below.trans k.below,h.keep.trans k.keep,Nat.le_trans h.size k.size⟩
theorem FP.later {FB c L:Nat} {p:Option Addr} {s:Fs} {a b d:World} (h:FP FB p c L s a b) (hb:Below b.heap.size b d) (hF:FB≤b.heap.size):FP FB p c L s a d:=by
 obtain⟨v0,v1,v2,v3,v4,v5,hf⟩:=h.wH;exact⟨⟨v0,v1,v2,v3,v4,v5,hf.later hb⟩,h.below.trans (hb.mono hF),h.keep.trans (bW hb),Nat.le_trans h.size hb.size⟩
section
variable {FB:Nat} {p:Option Addr} {c L:Nat} {W W':World} {s s':Fs} {v0 v1 v2 v3 v4 v5:Value}
theorem bz.fp (h:bz FB p c L W s v0 v1 v2 v3 v4 v5) (hb:Below FB W' W) (hk:cA FB W' W) (hs:W'.heap.size≤W.heap.size):FP FB p c L s W' W:=⟨⟨v0,v1,v2,v3,v4,v5,h⟩,hb,hk,hs⟩
theorem uI (h:bz FB p c L W s v0 v1 v2 v3 v4 v5) (n e:Int):
  Calls Tryz.prog 61 #[.pointer (some ⟨FB,0,none⟩),.int .i64 n,.int .i64 e] W fun e' w'=>e'=.returned (.tuple #[])∧FP FB p c L (bt s n e) W w':=by
 have c7:=h.cell 7;have c8:=h.cell 8;have f7:=h.frozen 7;have f8:=h.frozen 8;simp only [List.getElem?_toArray,List.getElem?_cons_succ,List.getElem?_cons_zero] at c7 c8;by_cases h0:s.e=0
 ·have hf:bt s n e={s with aT:=n,e:=e}:=by unfold bt;rw [if_pos h0]
  rw [hf];have hb:Below FB W ((W.setCell ⟨FB,7,none⟩ (.int .i64 n)).setCell ⟨FB,8,none⟩ (.int .i64 e)):=((Below.refl FB W).setCell (p:=⟨FB,7,none⟩) (Nat.le_refl _) _).setCell (p:=⟨FB,8,none⟩) (Nat.le_refl _) _;have Ya:=hid (((h.ag5 n).ag6 e).fp hb ((cE 7 _).trans (cE 8 _)) ai);rw [h0] at c8;clear h hf hb h0;go_enter Tryz.func61,Tryz.ntmps61;go_wp2;go_end0;exact⟨rfl,Ya.out⟩
 ·have hf:bt s n e=s:=by unfold bt;rw [if_neg h0]
  rw [hf];have Ya:=hid (h.fp (Below.refl _ _) (cA.refl _ _) (Nat.le_refl _));clear h hf;go_enter Tryz.func61,Tryz.ntmps61;go_wp2;go_end0;exact⟨rfl,Ya.out⟩
end
end Go.Proofs.YtbgjanmheagilaaGreatDoor