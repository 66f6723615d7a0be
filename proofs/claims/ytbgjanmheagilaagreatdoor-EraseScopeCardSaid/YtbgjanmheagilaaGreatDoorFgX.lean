/- A part of the proof. Conditions: none. -/
import Derived.Test.YtbgjanmheagilaaGreatDoorZz
import Derived.Test.YtbgjanmheagilaaGreatDoorFdX
import Derived.Test.YtbgjanmheagilaaGreatDoorCgX
set_option linter.unusedVariables false
set_option linter.unusedSimpArgs false
set_option maxRecDepth 100000
set_option maxHeartbeats 8000000
namespace Go.Proofs.YtbgjanmheagilaaGreatDoor
open Go Go.RowKit Go.Nodes
theorem aL (w:World) (o:Obj):Below w.heap.size w (w.alloc o):=(Below.refl _ _).alloc (Nat.le_refl _) o
theorem gb (w:World) (o:Obj) (m:Nat):Below w.heap.size w ((w.alloc o).drewN m):=(aL w o).trans ((below_drewN (w.alloc o) m).mono (aL w o).size)
theorem ya {FB c L m:Nat} {p:Option Addr} {s:Fs} {w w':World} {cs:Array Value} (h:FP FB p c L s ((w.alloc (.cells cs 30)).drewN m) w') (hF:FB<w.heap.size):w'.heap[w.heap.size]?=some (.cells cs 30 (0,0)):=
 h.keep w.heap.size cs 30 (heap_alloc_new w (.cells cs 30)) ay ay aa
theorem qb {FB c L:Nat} {p:Option Addr} {s:Fs} {w w':World} {cs:Array Value} (h:FP FB p c L s (w.alloc (.cells cs 30)) w') (hF:FB<w.heap.size):w'.heap[w.heap.size]?=some (.cells cs 30 (0,0)):=
 h.keep w.heap.size cs 30 (heap_alloc_new w (.cells cs 30)) ay ay aa
theorem dL (ns:List Nd) (k:Nat) (n fn:Int) (loop:Bool) (s:Fs):aH ns (k+1) n fn loop s=(if s.e≠0 then s else
  if ag ns n=17 then jy ns s n fn false
  else if ag ns n=11 then(if loop then s else bt s n 111)
  else if ag ns n=22 then pK ns (aH ns k) n fn s
  else if ag ns n=4 then(if(aH ns k ((aF ns n).getD 1 0) fn loop s).e=0 then eE ns (aH ns k ((aF ns n).getD 1 0) fn loop s) n fn else aH ns k ((aF ns n).getD 1 0) fn loop s)
  else if ag ns n=5 then aH ns k ((aF ns n).getD 0 0) fn loop (eE ns s n fn)
  else if ag ns n=6 then aH ns k ((aF ns n).getD 1 0) fn loop (if ag ns ((aF ns n).getD 0 0)=17 then jy ns s ((aF ns n).getD 0 0) fn true else aH ns k ((aF ns n).getD 0 0) fn loop s)
  else if ag ns n=9 then aH ns k ((aF ns n).getD 1 0) fn true (aH ns k ((aF ns n).getD 0 0) fn loop s)
  else if ag ns n=3 then {((aF ns n).foldl (fun s q=>aH ns k q fn loop s) s) with seen:=((aF ns n).foldl (fun s q=>aH ns k q fn loop s) s).seen.take s.seen.length} else((aF ns n).foldl (fun s q=>aH ns k q fn loop s) s)):=rfl
section
variable {FB:Nat} {p:Option Addr} {c:Nat} {ns:List Nd} {W0:World}
theorem MU (hN:aj W0 p ns) (h0:W0.heap.size≤FB) (k n:Nat) (hn:n<ns.length) (fn:Nat) (loop:Bool) (W:World) (s:Fs) (hf:Lr FB p c ns.length W s) (hb0:Below FB W0 W) (he:¬s.e=0):
  Calls Tryz.prog 31 #[.pointer (some ⟨FB,0,none⟩),.int .i64 n,.int .i64 fn,.bool loop] W fun e' w'=>e'=.returned (.tuple #[])∧FP FB p c ns.length (aH ns (k+1) n fn loop s) W w':=by
 have hres:aH ns (k+1) n fn loop s=s:=by unfold aH;rw [if_pos he]
 rw [hres];obtain⟨v0,v1,v2,v3,v4,v5,hF⟩:=hf;obtain⟨b,o,hp,dz,eO,bg,q0,q1,q2,q3⟩:=aY hN hn;have fJ:=hb0.mono h0;have k0:=(fJ.cell (p:=⟨b,_,none⟩) dz).trans q0;have k1:=(fJ.cell (p:=⟨b,_,none⟩) dz).trans q1;have k2:=(fJ.cell (p:=⟨b,_,none⟩) dz).trans q2;have k3:=(fJ.cell (p:=⟨b,_,none⟩) dz).trans q3;have c0:W.cell? ⟨FB,0,none⟩=some (.slice (some ⟨b,o,none⟩) ns.length c):=qc;have c8:W.cell? ⟨FB,8,none⟩=some (.int .i64 s.e):=hF.cell 8;have oY:FB≤W.heap.size:=qd;have Gv:=hF.lt;have Cj:=hid (hF.fp (Below.refl FB W) (cA.refl FB W) (Nat.le_refl _));have n0:(0:Int)≤(n:Int):=aa;have n1:(n:Int)<(ns.length:Int):=aa;have eA:=aR eO;have cX:aF ns (n:Int)=ns[n].kids:=mj;have A1:=hid eA;have lF:=hid cX;have iT:=hid bg;have HN:=hid hN;have HF:=hid hF;have qD:=hid hb0;have Ck:(ns.length:Int)≤(ns.length:Int):=Int.le_refl _;clear q0 q1 q2 q3 fJ hF eO eA cX bg hN hb0 Ck;generalize ns[n]=x at*;clear hres;go_enter Tryz.func31,Tryz.ntmps31;go_wp2
 try simp only [Exit.inBlock,Exit.then]
 refine bodyPost_ret (results_none rfl _ _ _) rfl ?_;refine⟨rfl, ?_⟩;have cP:=Cj.out.later (aL W (.cells #[.int .i64 x.kind,.string x.text,.slice x.kp x.kids.length x.aC,.int .i64 x.place] 30)) oY;exact ry
theorem MV (ht:Tree ns) (hN:aj W0 p ns) (bL:∀x∈ns,x.kids.length≤x.aC) (h0:W0.heap.size≤FB) (k n:Nat) (Lt:n≤k) (hn:n<ns.length) (IH:∀q,q<n→mA FB p c ns W0 k q) (bh:ag ns (n:Int)=17) (fn:Nat) (loop:Bool) (W:World) (s:Fs) (hf:Lr FB p c ns.length W s) (hi:eF ns.length s) (hb0:Below FB W0 W) (hfn:fn<s.funcs.length) (hsz:s.vars.length+wt ns n≤100000) (AX:s.funcs.length+wt ns n≤100000) (he:s.e=0):
  Calls Tryz.prog 31 #[.pointer (some ⟨FB,0,none⟩),.int .i64 n,.int .i64 fn,.bool loop] W fun e' w'=>e'=.returned (.tuple #[])∧FP FB p c ns.length (aH ns (k+1) n fn loop s) W w':=by
 have hres:aH ns (k+1) n fn loop s=jy ns s n fn false:=by
  rw [dL,if_neg pR];rw [if_pos bh]
 rw [hres];obtain⟨v0,v1,v2,v3,v4,v5,hF⟩:=hf;obtain⟨b,o,hp,dz,eO,bg,q0,q1,q2,q3⟩:=aY hN hn;have fJ:=hb0.mono h0;have k0:=(fJ.cell (p:=⟨b,_,none⟩) dz).trans q0;have k1:=(fJ.cell (p:=⟨b,_,none⟩) dz).trans q1;have k2:=(fJ.cell (p:=⟨b,_,none⟩) dz).trans q2;have k3:=(fJ.cell (p:=⟨b,_,none⟩) dz).trans q3;have c0:W.cell? ⟨FB,0,none⟩=some (.slice (some ⟨b,o,none⟩) ns.length c):=qc;have c8:W.cell? ⟨FB,8,none⟩=some (.int .i64 s.e):=hF.cell 8;have oY:FB≤W.heap.size:=qd;have Gv:=hF.lt;have Cj:=hid (hF.fp (Below.refl FB W) (cA.refl FB W) (Nat.le_refl _));have n0:(0:Int)≤(n:Int):=aa;have n1:(n:Int)<(ns.length:Int):=aa;have eA:=aR eO;have cX:aF ns (n:Int)=ns[n].kids:=mj;have A1:=hid eA;have lF:=hid cX;have iT:=hid bg;have HN:=hid hN;have HF:=hid hF;have qD:=hid hb0;have Ck:(ns.length:Int)≤(ns.length:Int):=Int.le_refl _;clear q0 q1 q2 q3 fJ hF eO eA cX bg hN hb0 Ck;have hwp:1≤wt ns n:=oL ht.ahead n;rw [A1.out] at bh;rw [he] at c8;have Hi:=hid hi;have Ds:=hid ht;have BP:=hid IH;have sZ:=hid bL;clear hres hi ht IH bL;generalize ns[n]=x at*;obtain⟨xk,xt,xp,xc,oM,RZ⟩:=x;simp only at bh k0 k1 k2 k3;subst bh;go_enter Tryz.func31,Tryz.ntmps31;go_wp2_with (go_at_call 60;refine(Vz (HF.out.later (aL W _)) Hi.out HN.out h0 (qD.out.trans ((aL W _).mono oY)) n fn hn aa false).mono ?_);exact MW
theorem MX (ht:Tree ns) (hN:aj W0 p ns) (bL:∀x∈ns,x.kids.length≤x.aC) (h0:W0.heap.size≤FB) (k n:Nat) (Lt:n≤k) (hn:n<ns.length) (IH:∀q,q<n→mA FB p c ns W0 k q) (bh:ag ns (n:Int)=22) (fn:Nat) (loop:Bool) (W:World) (s:Fs) (hf:Lr FB p c ns.length W s) (hi:eF ns.length s) (hb0:Below FB W0 W) (hfn:fn<s.funcs.length) (hsz:s.vars.length+wt ns n≤100000) (AX:s.funcs.length+wt ns n≤100000) (he:s.e=0):
  Calls Tryz.prog 31 #[.pointer (some ⟨FB,0,none⟩),.int .i64 n,.int .i64 fn,.bool loop] W fun e' w'=>e'=.returned (.tuple #[])∧FP FB p c ns.length (aH ns (k+1) n fn loop s) W w':=by
 have hres:aH ns (k+1) n fn loop s=pK ns (aH ns k) n fn s:=by
  rw [dL,if_neg pR];rw [if_neg nT];rw [if_neg nT];rw [if_pos bh]
 rw [hres];obtain⟨v0,v1,v2,v3,v4,v5,hF⟩:=hf;obtain⟨b,o,hp,dz,eO,bg,q0,q1,q2,q3⟩:=aY hN hn;have fJ:=hb0.mono h0;have k0:=(fJ.cell (p:=⟨b,_,none⟩) dz).trans q0;have k1:=(fJ.cell (p:=⟨b,_,none⟩) dz).trans q1;have k2:=(fJ.cell (p:=⟨b,_,none⟩) dz).trans q2;have k3:=(fJ.cell (p:=⟨b,_,none⟩) dz).trans q3;have c0:W.cell? ⟨FB,0,none⟩=some (.slice (some ⟨b,o,none⟩) ns.length c):=qc;have c8:W.cell? ⟨FB,8,none⟩=some (.int .i64 s.e):=hF.cell 8;have oY:FB≤W.heap.size:=qd;have Gv:=hF.lt;have Cj:=hid (hF.fp (Below.refl FB W) (cA.refl FB W) (Nat.le_refl _));have n0:(0:Int)≤(n:Int):=aa;have n1:(n:Int)<(ns.length:Int):=aa;have eA:=aR eO;have cX:aF ns (n:Int)=ns[n].kids:=mj;have A1:=hid eA;have lF:=hid cX;have iT:=hid bg;have HN:=hid hN;have HF:=hid hF;have qD:=hid hb0;have Ck:(ns.length:Int)≤(ns.length:Int):=Int.le_refl _;clear q0 q1 q2 q3 fJ hF eO eA cX bg hN hb0 Ck;have hwp:1≤wt ns n:=oL ht.ahead n;rw [A1.out] at bh;rw [he] at c8;have Hi:=hid hi;have Ds:=hid ht;have BP:=hid IH;have sZ:=hid bL;clear hres hi ht IH bL;have hk2:=gJ Ds.out hn (A1.out.trans bh) ai;have Hk2:=hid hk2;clear hk2;generalize ns[n]=x at*;obtain⟨xk,xt,xp,xc,oM,RZ⟩:=x;simp only at bh k0 k1 k2 k3;subst bh;go_enter Tryz.func31,Tryz.ntmps31;go_wp2_with (go_at_call 62;refine(Eu Ds.out (HF.out.later (aL W _)) Hi.out HN.out sZ.out h0 (qD.out.trans ((aL W _).mono oY)) k n (fn:Int) Lt hn Hk2.out hsz AX BP.out).mono ?_);exact MW
theorem MZ (ht:Tree ns) (hN:aj W0 p ns) (bL:∀x∈ns,x.kids.length≤x.aC) (h0:W0.heap.size≤FB) (k n:Nat) (Lt:n≤k) (hn:n<ns.length) (IH:∀q,q<n→mA FB p c ns W0 k q) (bh:ag ns (n:Int)=11) (fn:Nat) (loop:Bool) (W:World) (s:Fs) (hf:Lr FB p c ns.length W s) (hi:eF ns.length s) (hb0:Below FB W0 W) (hfn:fn<s.funcs.length) (hsz:s.vars.length+wt ns n≤100000) (AX:s.funcs.length+wt ns n≤100000) (he:s.e=0):
  Calls Tryz.prog 31 #[.pointer (some ⟨FB,0,none⟩),.int .i64 n,.int .i64 fn,.bool loop] W fun e' w'=>e'=.returned (.tuple #[])∧FP FB p c ns.length (aH ns (k+1) n fn loop s) W w':=by
 have hres:aH ns (k+1) n fn loop s=(if loop then s else bt s n 111):=by
  rw [dL,if_neg pR];rw [if_neg nT];rw [if_pos bh]
 rw [hres];obtain⟨v0,v1,v2,v3,v4,v5,hF⟩:=hf;obtain⟨b,o,hp,dz,eO,bg,q0,q1,q2,q3⟩:=aY hN hn;have fJ:=hb0.mono h0;have k0:=(fJ.cell (p:=⟨b,_,none⟩) dz).trans q0;have k1:=(fJ.cell (p:=⟨b,_,none⟩) dz).trans q1;have k2:=(fJ.cell (p:=⟨b,_,none⟩) dz).trans q2;have k3:=(fJ.cell (p:=⟨b,_,none⟩) dz).trans q3;have c0:W.cell? ⟨FB,0,none⟩=some (.slice (some ⟨b,o,none⟩) ns.length c):=qc;have c8:W.cell? ⟨FB,8,none⟩=some (.int .i64 s.e):=hF.cell 8;have oY:FB≤W.heap.size:=qd;have Gv:=hF.lt;have Cj:=hid (hF.fp (Below.refl FB W) (cA.refl FB W) (Nat.le_refl _));have n0:(0:Int)≤(n:Int):=aa;have n1:(n:Int)<(ns.length:Int):=aa;have eA:=aR eO;have cX:aF ns (n:Int)=ns[n].kids:=mj;have A1:=hid eA;have lF:=hid cX;have iT:=hid bg;have HN:=hid hN;have HF:=hid hF;have qD:=hid hb0;have Ck:(ns.length:Int)≤(ns.length:Int):=Int.le_refl _;clear q0 q1 q2 q3 fJ hF eO eA cX bg hN hb0 Ck;rw [A1.out] at bh;rw [he] at c8;clear hres hi ht IH bL;generalize ns[n]=x at*;obtain⟨xk,xt,xp,xc,oM,RZ⟩:=x;simp only at bh k0 k1 k2 k3;subst bh;cases loop with
 |true=>
  go_enter Tryz.func31,Tryz.ntmps31;go_wp2;go_end0;refine⟨rfl, ?_⟩;have cP:=(Cj.out.later (aL W (.cells #[.int .i64 11,.string xt,.slice xp oM.length xc,.int .i64 RZ] 30)) oY);exact ry
 |false=>
  go_enter Tryz.func31,Tryz.ntmps31;go_wp2_with (go_at_call 61;refine(uI (HF.out.later (aL W _)) _ _).mono ?_);exact MW
theorem R4 (ht:Tree ns) (hN:aj W0 p ns) (bL:∀x∈ns,x.kids.length≤x.aC) (h0:W0.heap.size≤FB) (k n:Nat) (Lt:n≤k) (hn:n<ns.length) (IH:∀q,q<n→mA FB p c ns W0 k q) (bh:ag ns (n:Int)=4) (fn:Nat) (loop:Bool) (W:World) (s:Fs) (hf:Lr FB p c ns.length W s) (hi:eF ns.length s) (hb0:Below FB W0 W) (hfn:fn<s.funcs.length) (hsz:s.vars.length+wt ns n≤100000) (AX:s.funcs.length+wt ns n≤100000) (he:s.e=0):
  Calls Tryz.prog 31 #[.pointer (some ⟨FB,0,none⟩),.int .i64 n,.int .i64 fn,.bool loop] W fun e' w'=>e'=.returned (.tuple #[])∧FP FB p c ns.length (aH ns (k+1) n fn loop s) W w':=by
 have hres:aH ns (k+1) n fn loop s=(if(aH ns k ((aF ns (n:Int)).getD 1 0) fn loop s).e=0 then eE ns (aH ns k ((aF ns (n:Int)).getD 1 0) fn loop s) n fn else aH ns k ((aF ns (n:Int)).getD 1 0) fn loop s):=by
  rw [dL,if_neg pR];exact M0
 obtain⟨v0,v1,v2,v3,v4,v5,hF⟩:=hf;obtain⟨b,o,hp,dz,eO,bg,q0,q1,q2,q3⟩:=aY hN hn;have fJ:=hb0.mono h0;have k0:=(fJ.cell (p:=⟨b,_,none⟩) dz).trans q0;have k1:=(fJ.cell (p:=⟨b,_,none⟩) dz).trans q1;have k2:=(fJ.cell (p:=⟨b,_,none⟩) dz).trans q2;have k3:=(fJ.cell (p:=⟨b,_,none⟩) dz).trans q3;have c0:W.cell? ⟨FB,0,none⟩=some (.slice (some ⟨b,o,none⟩) ns.length c):=qc;have c8:W.cell? ⟨FB,8,none⟩=some (.int .i64 s.e):=hF.cell 8;have oY:FB≤W.heap.size:=qd;have Gv:=hF.lt;have Cj:=hid (hF.fp (Below.refl FB W) (cA.refl FB W) (Nat.le_refl _));have n0:(0:Int)≤(n:Int):=aa;have n1:(n:Int)<(ns.length:Int):=aa;have eA:=aR eO;have cX:aF ns (n:Int)=ns[n].kids:=mj;have A1:=hid eA;have lF:=hid cX;have iT:=hid bg;have HN:=hid hN;have HF:=hid hF;have qD:=hid hb0;have Ck:(ns.length:Int)≤(ns.length:Int):=Int.le_refl _;clear q0 q1 q2 q3 fJ hF eO eA cX bg hN hb0 Ck;have wO:=gX ht n;rw [lF.out] at wO;have th:=gW ht (n:=(n:Int)) aa;rw [lF.out] at th;have hk2:=gJ ht hn bh ai;rw [lF.out] at hk2;have oN:1<ns[n].kids.length:=aa;obtain⟨PO,ok1,vp,Aa,gK⟩:=cF iT.out oN;have vq:ns[n].kids.getD 1 0=ns[n].kids[1]:=M3;have Cl:=th ns[n].kids[1] (List.getElem_mem oN);rw [vq] at gK;obtain⟨z1,hz1⟩:∃z:Nat,ns[n].kids[1]=(z:Int):=⟨(ns[n].kids[1]).toNat,by omega⟩;rw [hz1] at Cl gK;have Cm:ns[n].kids.getD 1 0=(z1:Int):=vq.trans hz1;have YR:z1<ns.length:=aa;have rz:=qD.out.mono h0;have kc1:=(rz.cell (p:=⟨PO,_,none⟩) Aa).trans gK;have mb1:PO<W.heap.size:=aa;rw [lF.out,Cm] at hres;have Dk:=gY ht.ahead (aF ns (n:Int));have uE:=oL ht.ahead n;have mg:=dJ (ns:=ns) ns[n].kids 1 oN;rw [hz1] at mg;have hza:wt ns z1+1≤wt ns n:=by have e:((z1:Int)).toNat=z1:=rfl;rw [e] at mg;omega
 have M4:=iy ht k z1 (fn:Int) loop s aa YR hi;rw [A1.out] at bh;rw [he] at c8;have Hi:=hid hi;have Ds:=hid ht;have BP:=hid IH;have sZ:=hid bL;have Dx:=hid M4;have jT:=hid hres;clear hres hi ht IH bL M4 wO th Dk mg rz vq hz1 Cm oN;have IW:=hid gK;clear gK;generalize ns[n]=x at*;obtain⟨xk,xt,xp,xc,oM,RZ⟩:=x;simp only at bh k0 k1 k2 k3 vp;subst bh;obtain⟨xl,Dm⟩:∃xl,xl=oM.length:=⟨_,rfl⟩;simp only at hk2;rw [←Dm] at k2 hk2;have hx0:(0:Int)<(xl:Int):=aa;have hx1:(1:Int)<(xl:Int):=aa;rw [vp] at k2;clear Dm vp;go_enter Tryz.func31,Tryz.ntmps31;go_wp2_with (go_at_call 31;refine(BP.out z1 aa fn loop _ _ ⟨_,_,_,_,_,_,HF.out.later (aL W _)⟩ Hi.out (qD.out.trans ((aL W _).mono oY)) hfn aa aa).mono ?_);intro e w9 hh
 first|(subst hh;intro dm)|(obtain⟨rfl,dm⟩:=hh)
 try rw [←hp] at dm
 obtain⟨r0,r1,r2,r3,r4,r5,jU⟩:=dm.wH;have Ab:=hid jU;have Cn:=hid dm;have tP:=qb dm Gv;have bx2:w9.cell? ⟨W.heap.size,2,none⟩=some (.slice (some ⟨PO,ok1,none⟩) xl xc):=yb;have R5:w9.cell? ⟨FB,0,none⟩=some (.slice (some ⟨b,o,none⟩) ns.length c):=Co;have M5:w9.cell? ⟨FB,8,none⟩=some (.int .i64 (aH ns k (z1:Int) (fn:Int) loop s).e):=jU.cell 8;have ja:=(qD.out.trans ((aL W _).mono oY)).trans dm.below;have M6:=((ja.mono h0).cell (p:=⟨PO,_,none⟩) Aa).trans IW.out;have Ac:=hid ja;clear jU dm tP ja;by_cases hs1:(aH ns k (z1:Int) (fn:Int) loop s).e=0
 ·have mL:=jT.out.trans (if_pos hs1);have qf:=hid mL;clear mL;have hv4:=Dx.out.v1;have YS:=Dx.out.f0;rw [hs1] at M5;go_wp2_with (go_at_call 63;refine(Li Ab.out Dx.out.inv HN.out h0 Ac.out n fn hn aa aa).mono ?_);intro e w8 hh
  first|(subst hh;intro lG)|(obtain⟨rfl,lG⟩:=hh)
  try rw [←hp] at lG
  have IX:=hid lG;clear lG;go_wp2;go_end0;refine⟨rfl, ?_⟩;have cP:=(Cj.out.later (aL W _) oY).trans Cn.out|>.trans IX.out
  rw [qf.out];exact ry
 ·have mL:=jT.out.trans (if_neg hs1);have qf:=hid mL;clear mL;go_wp2;go_end0;refine⟨rfl, ?_⟩;have cP:=(Cj.out.later (aL W _) oY).trans Cn.out;rw [qf.out];exact ry
theorem R6 (ht:Tree ns) (hN:aj W0 p ns) (bL:∀x∈ns,x.kids.length≤x.aC) (h0:W0.heap.size≤FB) (k n:Nat) (Lt:n≤k) (hn:n<ns.length) (IH:∀q,q<n→mA FB p c ns W0 k q) (bh:ag ns (n:Int)=5) (fn:Nat) (loop:Bool) (W:World) (s:Fs) (hf:Lr FB p c ns.length W s) (hi:eF ns.length s) (hb0:Below FB W0 W) (hfn:fn<s.funcs.length) (hsz:s.vars.length+wt ns n≤100000) (AX:s.funcs.length+wt ns n≤100000) (he:s.e=0):
  Calls Tryz.prog 31 #[.pointer (some ⟨FB,0,none⟩),.int .i64 n,.int .i64 fn,.bool loop] W fun e' w'=>e'=.returned (.tuple #[])∧FP FB p c ns.length (aH ns (k+1) n fn loop s) W w':=by
 have hres:aH ns (k+1) n fn loop s=aH ns k ((aF ns (n:Int)).getD 0 0) fn loop (eE ns s n fn):=by
  rw [dL,if_neg pR];rw [if_neg nT];exact M0
 obtain⟨v0,v1,v2,v3,v4,v5,hF⟩:=hf;obtain⟨b,o,hp,dz,eO,bg,q0,q1,q2,q3⟩:=aY hN hn;have fJ:=hb0.mono h0;have k0:=(fJ.cell (p:=⟨b,_,none⟩) dz).trans q0;have k1:=(fJ.cell (p:=⟨b,_,none⟩) dz).trans q1;have k2:=(fJ.cell (p:=⟨b,_,none⟩) dz).trans q2;have k3:=(fJ.cell (p:=⟨b,_,none⟩) dz).trans q3;have c0:W.cell? ⟨FB,0,none⟩=some (.slice (some ⟨b,o,none⟩) ns.length c):=qc;have c8:W.cell? ⟨FB,8,none⟩=some (.int .i64 s.e):=hF.cell 8;have oY:FB≤W.heap.size:=qd;have Gv:=hF.lt;have Cj:=hid (hF.fp (Below.refl FB W) (cA.refl FB W) (Nat.le_refl _));have n0:(0:Int)≤(n:Int):=aa;have n1:(n:Int)<(ns.length:Int):=aa;have eA:=aR eO;have cX:aF ns (n:Int)=ns[n].kids:=mj;have A1:=hid eA;have lF:=hid cX;have iT:=hid bg;have HN:=hid hN;have HF:=hid hF;have qD:=hid hb0;have Ck:(ns.length:Int)≤(ns.length:Int):=Int.le_refl _;clear q0 q1 q2 q3 fJ hF eO eA cX bg hN hb0 Ck;have wO:=gX ht n;rw [lF.out] at wO;have th:=gW ht (n:=(n:Int)) aa;rw [lF.out] at th;have hk2:=Cp ht hn bh;rw [lF.out] at hk2;have rA:0<ns[n].kids.length:=aa;obtain⟨Ad,ok0,rB,Ae,eT⟩:=cF iT.out rA;have vr:ns[n].kids.getD 0 0=ns[n].kids[0]:=M7;have Cq:=th ns[n].kids[0] (List.getElem_mem rA);rw [vr] at eT;obtain⟨z0,hz0⟩:∃z:Nat,ns[n].kids[0]=(z:Int):=⟨(ns[n].kids[0]).toNat,by omega⟩;rw [hz0] at Cq eT;have Cr:ns[n].kids.getD 0 0=(z0:Int):=vr.trans hz0;have IY:z0<ns.length:=aa;rw [Nat.add_zero] at eT;have rz:=qD.out.mono h0;have kc0:=(rz.cell (p:=⟨Ad,_,none⟩) Ae).trans eT;have mb0:Ad<W.heap.size:=aa;rw [lF.out,Cr] at hres;have Dk:=gY ht.ahead (aF ns (n:Int));have uE:=oL ht.ahead n;have mg:=dJ (ns:=ns) ns[n].kids 0 rA;rw [hz0] at mg;have hza:wt ns z0+1≤wt ns n:=by have e:((z0:Int)).toNat=z0:=rfl;rw [e] at mg;omega
 have M4:=mB hi ns (n:Int) (fn:Int) aa;have hnf:=kE ns s (n:Int) (fn:Int);rw [A1.out] at bh;rw [he] at c8;have Hi:=hid hi;have Ds:=hid ht;have BP:=hid IH;have sZ:=hid bL;have Dx:=hid M4;have jT:=hid hres;clear hres hi ht IH bL M4 wO th Dk mg rz vr hz0 Cr rA;have IZ:=hid eT;clear eT;generalize ns[n]=x at*;obtain⟨xk,xt,xp,xc,oM,RZ⟩:=x;simp only at bh k0 k1 k2 k3 rB;subst bh;obtain⟨xl,Dm⟩:∃xl,xl=oM.length:=⟨_,rfl⟩;simp only at hk2;rw [←Dm] at k2 hk2;have hx0:(0:Int)<(xl:Int):=aa;rw [rB] at k2;clear Dm rB;go_enter Tryz.func31,Tryz.ntmps31;go_wp2_with (go_at_call 63;refine(Li (HF.out.later (aL W _)) Hi.out HN.out h0 (qD.out.trans ((aL W _).mono oY)) n fn hn hfn aa).mono ?_);intro e w9 hh
 first|(subst hh;intro dm)|(obtain⟨rfl,dm⟩:=hh)
 try rw [←hp] at dm
 obtain⟨r0,r1,r2,r3,r4,r5,jU⟩:=dm.wH;have Ab:=hid jU;have Cn:=hid dm;have tP:=qb dm Gv;have bx2:w9.cell? ⟨W.heap.size,2,none⟩=some (.slice (some ⟨Ad,ok0,none⟩) xl xc):=yb;have R5:w9.cell? ⟨FB,0,none⟩=some (.slice (some ⟨b,o,none⟩) ns.length c):=Co;have M5:w9.cell? ⟨FB,8,none⟩=some (.int .i64 (eE ns s n fn).e):=jU.cell 8;have ja:=(qD.out.trans ((aL W _).mono oY)).trans dm.below;have M8:=((ja.mono h0).cell (p:=⟨Ad,_,none⟩) Ae).trans IZ.out;have Ac:=hid ja;clear jU dm tP ja;have hv4:=Dx.out.v1;go_wp2_with (go_at_call 31;refine(BP.out z0 aa fn loop _ _ ⟨_,_,_,_,_,_,Ab.out⟩ Dx.out.inv Ac.out (by rw [kE];exact hfn) aa (by rw [kE];omega)).mono ?_);exact VA
theorem R7 (ht:Tree ns) (hN:aj W0 p ns) (bL:∀x∈ns,x.kids.length≤x.aC) (h0:W0.heap.size≤FB) (k n:Nat) (Lt:n≤k) (hn:n<ns.length) (IH:∀q,q<n→mA FB p c ns W0 k q) (bh:ag ns (n:Int)=9) (fn:Nat) (loop:Bool) (W:World) (s:Fs) (hf:Lr FB p c ns.length W s) (hi:eF ns.length s) (hb0:Below FB W0 W) (hfn:fn<s.funcs.length) (hsz:s.vars.length+wt ns n≤100000) (AX:s.funcs.length+wt ns n≤100000) (he:s.e=0):
  Calls Tryz.prog 31 #[.pointer (some ⟨FB,0,none⟩),.int .i64 n,.int .i64 fn,.bool loop] W fun e' w'=>e'=.returned (.tuple #[])∧FP FB p c ns.length (aH ns (k+1) n fn loop s) W w':=by
 have hres:aH ns (k+1) n fn loop s=aH ns k ((aF ns (n:Int)).getD 1 0) fn true (aH ns k ((aF ns (n:Int)).getD 0 0) fn loop s):=by
  rw [dL,if_neg pR];rw [if_neg nT];exact VB
 obtain⟨v0,v1,v2,v3,v4,v5,hF⟩:=hf;obtain⟨b,o,hp,dz,eO,bg,q0,q1,q2,q3⟩:=aY hN hn;have fJ:=hb0.mono h0;have k0:=(fJ.cell (p:=⟨b,_,none⟩) dz).trans q0;have k1:=(fJ.cell (p:=⟨b,_,none⟩) dz).trans q1;have k2:=(fJ.cell (p:=⟨b,_,none⟩) dz).trans q2;have k3:=(fJ.cell (p:=⟨b,_,none⟩) dz).trans q3;have c0:W.cell? ⟨FB,0,none⟩=some (.slice (some ⟨b,o,none⟩) ns.length c):=qc;have c8:W.cell? ⟨FB,8,none⟩=some (.int .i64 s.e):=hF.cell 8;have oY:FB≤W.heap.size:=qd;have Gv:=hF.lt;have Cj:=hid (hF.fp (Below.refl FB W) (cA.refl FB W) (Nat.le_refl _));have n0:(0:Int)≤(n:Int):=aa;have n1:(n:Int)<(ns.length:Int):=aa;have eA:=aR eO;have cX:aF ns (n:Int)=ns[n].kids:=mj;have A1:=hid eA;have lF:=hid cX;have iT:=hid bg;have HN:=hid hN;have HF:=hid hF;have qD:=hid hb0;have Ck:(ns.length:Int)≤(ns.length:Int):=Int.le_refl _;clear q0 q1 q2 q3 fJ hF eO eA cX bg hN hb0 Ck;have wO:=gX ht n;rw [lF.out] at wO;have th:=gW ht (n:=(n:Int)) aa;rw [lF.out] at th;have hk2:=gJ ht hn bh ai;rw [lF.out] at hk2;have rA:0<ns[n].kids.length:=aa;obtain⟨Ad,ok0,rB,Ae,eT⟩:=cF iT.out rA;have vr:ns[n].kids.getD 0 0=ns[n].kids[0]:=M7;have Cq:=th ns[n].kids[0] (List.getElem_mem rA);rw [vr] at eT;obtain⟨z0,hz0⟩:∃z:Nat,ns[n].kids[0]=(z:Int):=⟨(ns[n].kids[0]).toNat,by omega⟩;rw [hz0] at Cq eT;have Cr:ns[n].kids.getD 0 0=(z0:Int):=vr.trans hz0;have IY:z0<ns.length:=aa;rw [Nat.add_zero] at eT;have oN:1<ns[n].kids.length:=aa;obtain⟨PO,ok1,vp,Aa,gK⟩:=cF iT.out oN;have vq:ns[n].kids.getD 1 0=ns[n].kids[1]:=M3;have Cl:=th ns[n].kids[1] (List.getElem_mem oN);rw [vq] at gK;obtain⟨z1,hz1⟩:∃z:Nat,ns[n].kids[1]=(z:Int):=⟨(ns[n].kids[1]).toNat,by omega⟩;rw [hz1] at Cl gK;have Cm:ns[n].kids.getD 1 0=(z1:Int):=vq.trans hz1;have YR:z1<ns.length:=aa;have rz:=qD.out.mono h0;have kc0:=(rz.cell (p:=⟨Ad,_,none⟩) Ae).trans eT;have mb0:Ad<W.heap.size:=aa;have kc1:=(rz.cell (p:=⟨PO,_,none⟩) Aa).trans gK;have mb1:PO<W.heap.size:=aa;rw [lF.out,Cr,Cm] at hres;have Dk:=gY ht.ahead (aF ns (n:Int));have uE:=oL ht.ahead n;have mg:=dJ (ns:=ns) ns[n].kids 1 oN;have MI:=dJ (ns:=ns) (ns[n].kids.take 1) 0 pP;rw [List.getElem_take] at MI;rw [hz1] at mg;rw [hz0] at MI;have hza:wt ns z0+wt ns z1+1≤wt ns n:=by
  exact M9
 have M4:=iy ht k z0 (fn:Int) loop s aa IY hi;rw [A1.out] at bh;rw [he] at c8;have Hi:=hid hi;have Ds:=hid ht;have BP:=hid IH;have sZ:=hid bL;have Dx:=hid M4;have jT:=hid hres;clear hres hi ht IH bL M4 wO th Dk mg rz vr hz0 Cr rA vq hz1 Cm oN MI;have IZ:=hid eT;clear eT;have IW:=hid gK;clear gK;generalize ns[n]=x at*;obtain⟨xk,xt,xp,xc,oM,RZ⟩:=x;simp only at bh k0 k1 k2 k3 rB vp;subst bh;obtain⟨xl,Dm⟩:∃xl,xl=oM.length:=⟨_,rfl⟩;simp only at hk2;rw [←Dm] at k2 hk2;have hx0:(0:Int)<(xl:Int):=aa;have hx1:(1:Int)<(xl:Int):=aa;rw [rB] at k2;rw [rB] at vp;cases vp;clear Dm rB;go_enter Tryz.func31,Tryz.ntmps31;go_wp2_with (go_at_call 31;refine(BP.out z0 aa fn loop _ _ ⟨_,_,_,_,_,_,HF.out.later (aL W _)⟩ Hi.out (qD.out.trans ((aL W _).mono oY)) hfn aa aa).mono ?_);intro e w9 hh
 first|(subst hh;intro dm)|(obtain⟨rfl,dm⟩:=hh)
 try rw [←hp] at dm
 obtain⟨r0,r1,r2,r3,r4,r5,jU⟩:=dm.wH;have Ab:=hid jU;have Cn:=hid dm;have tP:=qb dm Gv;have bx2:w9.cell? ⟨W.heap.size,2,none⟩=some (.slice (some ⟨Ad,ok0,none⟩) xl xc):=yb;have R5:w9.cell? ⟨FB,0,none⟩=some (.slice (some ⟨b,o,none⟩) ns.length c):=Co;have M5:w9.cell? ⟨FB,8,none⟩=some (.int .i64 (aH ns k (z0:Int) (fn:Int) loop s).e):=jU.cell 8;have ja:=(qD.out.trans ((aL W _).mono oY)).trans dm.below;have M8:=((ja.mono h0).cell (p:=⟨Ad,_,none⟩) Ae).trans IZ.out;have M6:=((ja.mono h0).cell (p:=⟨Ad,_,none⟩) Aa).trans IW.out;have Ac:=hid ja;clear jU dm tP ja;have hv4:=Dx.out.v1;have YS:=Dx.out.f0;have hf5:=Dx.out.f1;go_wp2_with (go_at_call 31;refine(BP.out z1 aa fn true _ _ ⟨_,_,_,_,_,_,Ab.out⟩ Dx.out.inv Ac.out aa aa aa).mono ?_);exact VA
theorem R8 (ht:Tree ns) (hN:aj W0 p ns) (bL:∀x∈ns,x.kids.length≤x.aC) (h0:W0.heap.size≤FB) (k n:Nat) (Lt:n≤k) (hn:n<ns.length) (IH:∀q,q<n→mA FB p c ns W0 k q) (bh:ag ns (n:Int)=6) (fn:Nat) (loop:Bool) (W:World) (s:Fs) (hf:Lr FB p c ns.length W s) (hi:eF ns.length s) (hb0:Below FB W0 W) (hfn:fn<s.funcs.length) (hsz:s.vars.length+wt ns n≤100000) (AX:s.funcs.length+wt ns n≤100000) (he:s.e=0):
  Calls Tryz.prog 31 #[.pointer (some ⟨FB,0,none⟩),.int .i64 n,.int .i64 fn,.bool loop] W fun e' w'=>e'=.returned (.tuple #[])∧FP FB p c ns.length (aH ns (k+1) n fn loop s) W w':=by
 have hres:aH ns (k+1) n fn loop s=aH ns k ((aF ns (n:Int)).getD 1 0) fn loop (if ag ns ((aF ns (n:Int)).getD 0 0)=17 then jy ns s ((aF ns (n:Int)).getD 0 0) fn true else aH ns k ((aF ns (n:Int)).getD 0 0) fn loop s):=by
  rw [dL,if_neg pR];exact VB
 obtain⟨v0,v1,v2,v3,v4,v5,hF⟩:=hf;obtain⟨b,o,hp,dz,eO,bg,q0,q1,q2,q3⟩:=aY hN hn;have fJ:=hb0.mono h0;have k0:=(fJ.cell (p:=⟨b,_,none⟩) dz).trans q0;have k1:=(fJ.cell (p:=⟨b,_,none⟩) dz).trans q1;have k2:=(fJ.cell (p:=⟨b,_,none⟩) dz).trans q2;have k3:=(fJ.cell (p:=⟨b,_,none⟩) dz).trans q3;have c0:W.cell? ⟨FB,0,none⟩=some (.slice (some ⟨b,o,none⟩) ns.length c):=qc;have c8:W.cell? ⟨FB,8,none⟩=some (.int .i64 s.e):=hF.cell 8;have oY:FB≤W.heap.size:=qd;have Gv:=hF.lt;have Cj:=hid (hF.fp (Below.refl FB W) (cA.refl FB W) (Nat.le_refl _));have n0:(0:Int)≤(n:Int):=aa;have n1:(n:Int)<(ns.length:Int):=aa;have eA:=aR eO;have cX:aF ns (n:Int)=ns[n].kids:=mj;have A1:=hid eA;have lF:=hid cX;have iT:=hid bg;have HN:=hid hN;have HF:=hid hF;have qD:=hid hb0;have Ck:(ns.length:Int)≤(ns.length:Int):=Int.le_refl _;clear q0 q1 q2 q3 fJ hF eO eA cX bg hN hb0 Ck;have wO:=gX ht n;rw [lF.out] at wO;have th:=gW ht (n:=(n:Int)) aa;rw [lF.out] at th;have hk2:=gJ ht hn bh ai;rw [lF.out] at hk2;have rA:0<ns[n].kids.length:=aa;obtain⟨Ad,ok0,rB,Ae,eT⟩:=cF iT.out rA;have vr:ns[n].kids.getD 0 0=ns[n].kids[0]:=M7;have Cq:=th ns[n].kids[0] (List.getElem_mem rA);rw [vr] at eT;obtain⟨z0,hz0⟩:∃z:Nat,ns[n].kids[0]=(z:Int):=⟨(ns[n].kids[0]).toNat,by omega⟩;rw [hz0] at Cq eT;have Cr:ns[n].kids.getD 0 0=(z0:Int):=vr.trans hz0;have IY:z0<ns.length:=aa;rw [Nat.add_zero] at eT;have oN:1<ns[n].kids.length:=aa;obtain⟨PO,ok1,vp,Aa,gK⟩:=cF iT.out oN;have vq:ns[n].kids.getD 1 0=ns[n].kids[1]:=M3;have Cl:=th ns[n].kids[1] (List.getElem_mem oN);rw [vq] at gK;obtain⟨z1,hz1⟩:∃z:Nat,ns[n].kids[1]=(z:Int):=⟨(ns[n].kids[1]).toNat,by omega⟩;rw [hz1] at Cl gK;have Cm:ns[n].kids.getD 1 0=(z1:Int):=vq.trans hz1;have YR:z1<ns.length:=aa;have rz:=qD.out.mono h0;have kc0:=(rz.cell (p:=⟨Ad,_,none⟩) Ae).trans eT;have mb0:Ad<W.heap.size:=aa;have kc1:=(rz.cell (p:=⟨PO,_,none⟩) Aa).trans gK;have mb1:PO<W.heap.size:=aa;rw [lF.out,Cr,Cm] at hres;have Dk:=gY ht.ahead (aF ns (n:Int));have uE:=oL ht.ahead n;have mg:=dJ (ns:=ns) ns[n].kids 1 oN;have MI:=dJ (ns:=ns) (ns[n].kids.take 1) 0 pP;rw [List.getElem_take] at MI;rw [hz1] at mg;rw [hz0] at MI;have hza:wt ns z0+wt ns z1+1≤wt ns n:=by
  exact M9
 have M4:=iy ht k z0 (fn:Int) loop s aa IY hi;have Hnu:=hid (vt hi ns (z0:Int) (fn:Int) true (wt ns z0));rw [A1.out] at bh;rw [he] at c8;have Hi:=hid hi;have Ds:=hid ht;have BP:=hid IH;have sZ:=hid bL;have Dx:=hid M4;have jT:=hid hres;clear hres hi ht IH bL M4 wO th Dk mg rz vr hz0 Cr rA vq hz1 Cm oN MI;have IZ:=hid eT;clear eT;have IW:=hid gK;clear gK;generalize ns[n]=x at*;obtain⟨xk,xt,xp,xc,oM,RZ⟩:=x;simp only at bh k0 k1 k2 k3 rB vp;subst bh;obtain⟨xl,Dm⟩:∃xl,xl=oM.length:=⟨_,rfl⟩;simp only at hk2;rw [←Dm] at k2 hk2;have hx0:(0:Int)<(xl:Int):=aa;have hx1:(1:Int)<(xl:Int):=aa;rw [rB] at k2;rw [rB] at vp;cases vp;clear Dm rB;go_enter Tryz.func31,Tryz.ntmps31;obtain⟨b2,o2,zM,_,hx2,_,q0',_,_,_⟩:=aY HN.out IY;rw [hp] at zM;cases zM;have kz:=((qD.out.mono h0).cell (p:=⟨b,_,none⟩) dz).trans q0';have XM:=aR hx2;have Hkz:=hid XM;have mbb:b<W.heap.size:=aa;have zz0:(0:Int)≤(z0:Int):=aa;have zz1:(z0:Int)<(ns.length:Int):=aa;clear q0' hx2 XM;generalize ns[z0].kind=kz0 at*;by_cases UJ:kz0=17
 ·subst UJ;go_wp2;go_quiet (fail);rename_i nq;go_wp2_with (go_at_call 60;refine(Vz (HF.out.later (gb W _ nq)) Hi.out HN.out h0 (qD.out.trans ((gb W _ nq).mono oY)) z0 fn IY aa true).mono ?_);intro e w9 hh
  first|(subst hh;intro dm)|(obtain⟨rfl,dm⟩:=hh)
  try rw [←hp] at dm
  obtain⟨r0,r1,r2,r3,r4,r5,jU⟩:=dm.wH;have Ab:=hid jU;have Cn:=hid dm;have tP:=ya dm Gv;have bx2:w9.cell? ⟨W.heap.size,2,none⟩=some (.slice (some ⟨Ad,ok0,none⟩) xl xc):=yb;have R5:w9.cell? ⟨FB,0,none⟩=some (.slice (some ⟨b,o,none⟩) ns.length c):=Co;have M5:w9.cell? ⟨FB,8,none⟩=some (.int .i64 (jy ns s z0 fn true).e):=jU.cell 8;have ja:=(qD.out.trans ((gb W _ nq).mono oY)).trans dm.below;have M8:=((ja.mono h0).cell (p:=⟨Ad,_,none⟩) Ae).trans IZ.out;have M6:=((ja.mono h0).cell (p:=⟨Ad,_,none⟩) Aa).trans IW.out;have Ac:=hid ja;clear jU dm tP ja;have hv4:=Hnu.out.v1;have YS:=Hnu.out.f0;have hf5:=Hnu.out.f1;go_wp2_with (go_at_call 31;refine(BP.out z1 aa fn loop _ _ ⟨_,_,_,_,_,_,Ab.out⟩ Hnu.out.inv Ac.out aa aa aa).mono ?_);intro e w8 hh
  first|(subst hh;intro lG)|(obtain⟨rfl,lG⟩:=hh)
  try rw [←hp] at lG
  have IX:=hid lG;have mL:=jT.out;rw [if_pos Hkz.out] at mL;exact VC
 ·have ak8:=UJ;go_wp2;go_quiet (fail);rename_i nq;go_wp2_with (go_at_call 31;refine(BP.out z0 aa fn loop _ _ ⟨_,_,_,_,_,_,HF.out.later (gb W _ nq)⟩ Hi.out (qD.out.trans ((gb W _ nq).mono oY)) hfn aa aa).mono ?_);intro e w9 hh
  first|(subst hh;intro dm)|(obtain⟨rfl,dm⟩:=hh)
  try rw [←hp] at dm
  obtain⟨r0,r1,r2,r3,r4,r5,jU⟩:=dm.wH;have Ab:=hid jU;have Cn:=hid dm;have tP:=ya dm Gv;have bx2:w9.cell? ⟨W.heap.size,2,none⟩=some (.slice (some ⟨Ad,ok0,none⟩) xl xc):=yb;have R5:w9.cell? ⟨FB,0,none⟩=some (.slice (some ⟨b,o,none⟩) ns.length c):=Co;have M5:w9.cell? ⟨FB,8,none⟩=some (.int .i64 (aH ns k (z0:Int) (fn:Int) loop s).e):=jU.cell 8;have ja:=(qD.out.trans ((gb W _ nq).mono oY)).trans dm.below;have M8:=((ja.mono h0).cell (p:=⟨Ad,_,none⟩) Ae).trans IZ.out;have M6:=((ja.mono h0).cell (p:=⟨Ad,_,none⟩) Aa).trans IW.out;have Ac:=hid ja;clear jU dm tP ja;have hv4:=Dx.out.v1;have YS:=Dx.out.f0;have hf5:=Dx.out.f1;go_wp2_with (go_at_call 31;refine(BP.out z1 aa fn loop _ _ ⟨_,_,_,_,_,_,Ab.out⟩ Dx.out.inv Ac.out aa aa aa).mono ?_);intro e w8 hh
  first|(subst hh;intro lG)|(obtain⟨rfl,lG⟩:=hh)
  try rw [←hp] at lG
  have IX:=hid lG;have mL:=jT.out;rw [if_neg (fun e=>UJ (Hkz.out.symm.trans e))] at mL;exact VC
theorem I0 (ht:Tree ns) (hN:aj W0 p ns) (bL:∀x∈ns,x.kids.length≤x.aC) (h0:W0.heap.size≤FB) (k n:Nat) (Lt:n≤k) (hn:n<ns.length) (IH:∀q,q<n→mA FB p c ns W0 k q) (bh:ag ns (n:Int)≠17∧ag ns (n:Int)≠11∧ag ns (n:Int)≠22∧ag ns (n:Int)≠4∧ag ns (n:Int)≠5∧ag ns (n:Int)≠6∧ag ns (n:Int)≠9) (fn:Nat) (loop:Bool) (W:World) (s:Fs) (hf:Lr FB p c ns.length W s) (hi:eF ns.length s) (hb0:Below FB W0 W) (hfn:fn<s.funcs.length) (hsz:s.vars.length+wt ns n≤100000) (AX:s.funcs.length+wt ns n≤100000) (he:s.e=0):
  Calls Tryz.prog 31 #[.pointer (some ⟨FB,0,none⟩),.int .i64 n,.int .i64 fn,.bool loop] W fun e' w'=>e'=.returned (.tuple #[])∧FP FB p c ns.length (aH ns (k+1) n fn loop s) W w':=by
 obtain⟨m1,m2,m3,m4,m5,m6,m7⟩:=bh;obtain⟨G,hG⟩:∃G:Fs→Int→Fs,G=fun s q=>aH ns k q fn loop s:=⟨_,rfl⟩
 have hres:aH ns (k+1) n fn loop s=(if ag ns (n:Int)=3 then {((aF ns (n:Int)).foldl G s) with seen:=((aF ns (n:Int)).foldl G s).seen.take s.seen.length} else((aF ns (n:Int)).foldl G s)):=by
  rw [dL,if_neg pR,if_neg m1,if_neg m2,if_neg m3,if_neg m4,if_neg m5,if_neg m6,if_neg m7,hG]
 obtain⟨v0,v1,v2,v3,v4,v5,hF⟩:=hf;obtain⟨b,o,hp,dz,eO,bg,q0,q1,q2,q3⟩:=aY hN hn;have fJ:=hb0.mono h0;have k0:=(fJ.cell (p:=⟨b,_,none⟩) dz).trans q0;have k1:=(fJ.cell (p:=⟨b,_,none⟩) dz).trans q1;have k2:=(fJ.cell (p:=⟨b,_,none⟩) dz).trans q2;have k3:=(fJ.cell (p:=⟨b,_,none⟩) dz).trans q3;have c0:W.cell? ⟨FB,0,none⟩=some (.slice (some ⟨b,o,none⟩) ns.length c):=qc;have c8:W.cell? ⟨FB,8,none⟩=some (.int .i64 s.e):=hF.cell 8;have oY:FB≤W.heap.size:=qd;have Gv:=hF.lt;have Cj:=hid (hF.fp (Below.refl FB W) (cA.refl FB W) (Nat.le_refl _));have n0:(0:Int)≤(n:Int):=aa;have n1:(n:Int)<(ns.length:Int):=aa;have eA:=aR eO;have cX:aF ns (n:Int)=ns[n].kids:=mj;have A1:=hid eA;have lF:=hid cX;have iT:=hid bg;have HN:=hid hN;have HF:=hid hF;have qD:=hid hb0;have Ck:(ns.length:Int)≤(ns.length:Int):=Int.le_refl _;clear q0 q1 q2 q3 fJ hF eO eA cX bg hN hb0 Ck;have wO:=gX ht n;rw [lF.out] at wO;have th:=gW ht (n:=(n:Int)) aa;rw [lF.out] at th;rw [A1.out] at m1 m2 m3 m4 m5 m6 m7;rw [A1.out,lF.out] at hres;have Dk:=gY ht.ahead ns[n].kids;rw [he] at c8;have Hi:=hid hi;have Ds:=hid ht;have BP:=hid IH;have sZ:=hid bL;have jT:=hid hres;have HG:=hid hG;have Hvk:=hid th;have Hwk:=hid wO;have Dl:s.seen.length≤100000:=Nat.le_trans hi.few aa;obtain⟨sv4,sc4,Lu⟩:∃sv sc,v4=.slice sv s.seen.length sc:=by
  rcases(HF.out.rows.rows 3 _ _ rfl rfl).2 with⟨e1,e2⟩|⟨g,cap,cur,e1,_⟩
  ·exact⟨none,0,by rw [e1,e2]⟩
  ·exact⟨_,_,e1⟩
 have c5:W.cell? ⟨FB,5,none⟩=some (.slice sv4 s.seen.length sc4):=by rw [←Lu];exact HF.out.cell 5
 have m1':=fun e=>m1 (Eq.symm e)
 have acU:(ns[n].kids.length:Int)≤100000:=aa;have agw:=hid (show ns[n].kids=ns[n].kids from rfl);clear hres hi ht IH bL hG th wO Lu m1' Dk agw;generalize ns[n]=x at*;obtain⟨xk,xt,xp,xc,oM,RZ⟩:=x;simp only at m1 m2 m3 m4 m5 m6 m7 k0 k1 k2 k3 acU;obtain⟨xl,Dm⟩:∃xl,xl=oM.length:=⟨_,rfl⟩;rw [←Dm] at k2 acU;have Hxl:=hid Dm;clear Dm;go_enter Tryz.func31,Tryz.ntmps31;go_wp2;go_loopw [34] (fun iv wr=>∃(j:Nat) (sj:Fs),iv=.int .i64 j∧j≤xl∧Hid (FP FB p c ns.length sj (W.alloc (.cells #[.int .i64 xk,.string xt,.slice xp xl xc,.int .i64 RZ] 30)) wr∧dU ns.length (wI ns (oM.take j)) s sj∧(oM.drop j).foldl G sj=oM.foldl G s)) (fun iv _=>xl - (intOf iv).toNat)
 case atStart=>exact⟨0,s,rfl,Nat.zero_le _,hid ⟨(HF.out.later (aL W _)).fp (Below.refl _ _) (cA.refl _ _) (Nat.le_refl _),dU.refl Hi.out _,rfl⟩⟩
 case round=>
  obtain⟨j,sj,rfl,hj,hJ⟩:=hrel;obtain⟨Ip,R9,hEj⟩:=hJ.out;obtain⟨r0,r1,r2,r3,r4,r5,gQ⟩:=Ip.wH;have XS:=hid gQ;have HFj:=hid Ip;have HGj:=hid R9;have HEj:=hid hEj;have hBj:=(qD.out.trans ((aL W _).mono oY)).trans Ip.below;have HBj:=hid hBj;have tP:=qb Ip Gv;have hj0:(0:Int)≤(j:Int):=aa;by_cases hjx:j<xl
  ·have lB:j<oM.length:=by have:=Hxl.out;omega
   obtain⟨bk,ok,iW,Ii,td⟩:=cF iT.out lB;simp only at iW td;have dy:=((HBj.out.mono h0).cell (p:=⟨bk,_,none⟩) Ii).trans td;have jx:oM.getD j 0=oM[j]:=BQ;have eC:=Hvk.out oM[j] (List.getElem_mem lB);rw [jx] at dy;obtain⟨z,hz⟩:∃z:Nat,oM[j]=(z:Int):=⟨(oM[j]).toNat,by omega⟩;rw [hz] at eC dy;have hzl:z<ns.length:=aa;have BR:oM.drop j=(z:Int)::oM.drop (j+1):=by rw [List.drop_eq_getElem_cons lB,hz]
   have jl:oM.take (j+1)=oM.take j++[(z:Int)]:=Gj;have mg:=dJ (ns:=ns) oM j lB;rw [hz] at mg;have hza:wI ns (oM.take j)+wt ns z≤wI ns oM:=mg;have hz2:=Hwk.out;have hgz:=iy Ds.out k z (fn:Int) loop sj aa hzl R9.inv;have hgA:=R9.trans hgz;have hv1:=R9.v1;have Lv:=R9.f1;have hf0:=R9.f0;have hwx:wt ns n=1+wI ns oM:=hz2;have hj1:(j:Int)<(xl:Int):=aa;have HgA:=hid hgA;have Lz:=hid BR;have pQ:=hid jl;have X7:=hid iW;rw [iW];clear Ip R9 hEj hJ gQ hBj tP jx hz BR jl mg hz2 hgz hgA td iW;go_wp2_with (go_at_call 31;refine(BP.out z aa fn loop _ _ ⟨_,_,_,_,_,_,XS.out⟩ HGj.out.inv HBj.out aa aa aa).mono ?_);intro e w9 hh
   first|(subst hh;intro nr)|(obtain⟨rfl,nr⟩:=hh)
   try rw [←hp] at nr
   have LA:=hid nr;clear nr;go_wp2;go_roundw
   case rel=>
    have hT:=HFj.out.trans LA.out;rw [X7.out] at hT;refine⟨j+1,aH ns k (z:Int) (fn:Int) loop sj,by go_num,by omega,hid ⟨hT,HgA.out.le ?_, ?_⟩⟩
    ·rw [pQ.out,Gw];simp [wI]
    ·rw [←HEj.out,Lz.out,List.foldl_cons,HG.out]
   case measure=>simp [intOf];omega
  ·obtain rfl:j=xl:=by omega
   have hsj:oM.foldl G s=sj:=by rw [←HEj.out,List.drop_eq_nil_of_le (by have:=Hxl.out;omega)];rfl
   have bx0:wr.cell? ⟨W.heap.size,0,none⟩=some (.int .i64 xk):=yb;have hlen:s.seen.length≤sj.seen.length:=R9.seen;have hrow:=gQ.rows.rows 3 _ _ rfl rfl;obtain⟨sv,sc,EA,af8,af9,hI9⟩:=mo hrow hlen;have e5:wr.cell? ⟨FB,5,none⟩=some (.slice sv sj.seen.length sc):=by rw [←EA];exact gQ.cell 5
   have f5:=gQ.frozen 5;have hsi:(s.seen.length:Int)≤(sc:Int):=aa;have hs0:(0:Int)≤(s.seen.length:Int):=aa;have hs9:(s.seen.length:Int)≤100000:=aa;have cP:=gQ.BV hI9 (by rw [EA];cases sv<;>rfl);have Ya:=hid ((Cj.out.later (aL W _) oY).trans (Ip.trans (cP.fp ((Below.refl FB wr).setCell (p:=⟨FB,5,none⟩) (Nat.le_refl _) _) (cE 5 _) ai)));have agz:=hid ((Cj.out.later (aL W _) oY).trans Ip);have qf:=jT.out;rw [hsj] at qf;have VD:=hid qf;clear Ip R9 hEj hJ gQ hBj tP hrow hI9 cP hsj qf EA;by_cases h3:xk=3
   ·subst h3;have hr:=VD.out.trans (if_pos rfl);have Hr:=hid hr;clear hr;go_wp2;go_end0;refine⟨rfl, ?_⟩;have cP:=Ya.out;rw [←Hr.out] at cP;exact ry
   ·have hr:=VD.out.trans (if_neg h3);have Hr:=hid hr;clear hr;go_wp2;go_end0;refine⟨rfl, ?_⟩;have cP:=agz.out;rw [←Hr.out] at cP;exact ry
theorem Lb (ht:Tree ns) (hN:aj W0 p ns) (bL:∀x∈ns,x.kids.length≤x.aC) (h0:W0.heap.size≤FB):∀(k n:Nat),n<k→n<ns.length→mA FB p c ns W0 k n
 |0,n,h,_=>absurd h aa
 |k+1,n,Lt,hn=>fun fn loop W s hf hi hb0 hfn hsz AX=>by
  have IH:∀q,q<n→mA FB p c ns W0 k q:=fun q hq=>Lb ht hN bL h0 k q aa aa
  by_cases he:s.e=0
  ·by_cases m1:ag ns (n:Int)=17
   ·exact MV ht hN bL h0 k n aa hn IH m1 fn loop W s hf hi hb0 hfn hsz AX he
   by_cases m2:ag ns (n:Int)=11
   ·exact MZ ht hN bL h0 k n aa hn IH m2 fn loop W s hf hi hb0 hfn hsz AX he
   by_cases m3:ag ns (n:Int)=22
   ·exact MX ht hN bL h0 k n aa hn IH m3 fn loop W s hf hi hb0 hfn hsz AX he
   by_cases m4:ag ns (n:Int)=4
   ·exact R4 ht hN bL h0 k n aa hn IH m4 fn loop W s hf hi hb0 hfn hsz AX he
   by_cases m5:ag ns (n:Int)=5
   ·exact R6 ht hN bL h0 k n aa hn IH m5 fn loop W s hf hi hb0 hfn hsz AX he
   by_cases m6:ag ns (n:Int)=6
   ·exact R8 ht hN bL h0 k n aa hn IH m6 fn loop W s hf hi hb0 hfn hsz AX he
   by_cases m7:ag ns (n:Int)=9
   ·exact R7 ht hN bL h0 k n aa hn IH m7 fn loop W s hf hi hb0 hfn hsz AX he
   exact I0 ht hN bL h0 k n aa hn IH ⟨m1,m2,m3,m4,m5,m6,m7⟩ fn loop W s hf hi hb0 hfn hsz AX he
  ·exact MU hN h0 k n hn fn loop W s hf hb0 he
end
end Go.Proofs.YtbgjanmheagilaaGreatDoor
/- A part of the proof. Conditions: none. -/
set_option maxRecDepth 100000
set_option maxHeartbeats 8000000
namespace Go.Proofs.YtbgjanmheagilaaGreatDoor
open Go Go.RowKit Go.Nodes
theorem BI (ns:List Nd) (v:List Bool):∀(l:List Nd) (n:Nat) (us:List Bool),ns.drop n=l→iZ ns n→cz ns l n us=(none,v)→iZ ns ns.length
 |[],n,us,hd,hv,_=>by
  have:ns.length≤n:=by simpa using hd
  intro i x hi hx;exact hv i x aa hx
 |x::l,n,us,hd,hv,h=>by
  have hn:n<ns.length:=by
   rcases Nat.lt_or_ge n ns.length with h|h
   ·exact h
   ·rw [List.drop_eq_nil_of_le h] at hd;cases hd
  have zE:=List.drop_eq_getElem_cons hn;rw [hd] at zE;obtain⟨h1,h2⟩:=List.cons.inj zE;cases hk:bZ n x.kids us with
  |none=>unfold cz at h;simp only [hk] at h;cases h
  |some aW=>
   cases ho:okB ns x with
   |false=>rw [uA hk ho] at h;cases h
   |true=>
    rw [zF hk ho] at h;refine BI ns v l (n+1) aW h2.symm (fun i y hi hy=>?_) h;by_cases F4:i<n
    ·exact hv i y F4 hy
    ·obtain rfl:i=n:=by omega
     rw [List.getElem?_eq_getElem hn,←h1] at hy;cases hy;exact rZ hk ho
theorem BJ {ns:List Nd} (h:(aS ns).2=0):iZ ns ns.length∧ag ns ((ns.length - 1:Nat):Int)=1:=by
 have ht:=taken h;unfold aS at h;split at h
 ·exact absurd h (show ¬((60:Int)=0) by decide)
 ·rename_i u hs;refine⟨BI ns u ns 0 _ rfl (fun i x hi=>absurd hi aa) hs, ?_⟩;split at h
  ·exact absurd h (show ¬((60:Int)=0) by decide)
  split at h
  ·rename_i hr;unfold jA at hr;have h1:=List.all_eq_true.1 hr (ns.length - 1) (by rw [List.mem_range];omega);simp only [Bool.and_eq_true,decide_eq_true_eq] at h1;exact h1.1.2 aa
  ·exact absurd h (show ¬((60:Int)=0) by decide)
theorem Ge {ns:List Nd} (h:(aS ns).2=0):Tree ns:=⟨(taken h).1,(BJ h).1⟩
theorem K8 {ns:List Nd} (h:(aS ns).2=0):1≤(aF ns ((ns.length - 1:Nat):Int)).length:=by
 obtain⟨hv,hk⟩:=BJ h;have h0:=(taken h).2.1;obtain⟨x,hx,h1,h2,hv⟩:=qL (Ge h) (n:=ns.length - 1) aa;exact UN
def oG (j:Nat):Fs:=⟨[],List.replicate j (-1),[],[],[],[],0,0⟩
def uB:Fs:=⟨[],[],[],[],[],[],0,0⟩
def bC (ns:List Nd):Fs × Int × Int:=
 if(aS ns).2≠0 then(uB,(aS ns).1,(aS ns).2)
 else if(bp ns).e≠0 then(uB,(bp ns).aT,(bp ns).e) else(bp ns,0,0)
structure kC (B:Nat) (w:World) (s:Fs) (v0 v1 v2 v3:Value):Prop where
 vars:w.ownsRow B 37 4 v0 s.vars.length (cJ s.vars)
 uses:Ints B w v1 s.uses
 funcs:Ints B w v2 s.funcs
 jh:Ints B w v3 s.jh
theorem pN {B B':Nat} {w:World} {e:TypeId} {size:Nat} {v:Value} {n:Nat} {xs:List Value} (h:w.ownsRow B e size v n xs) (hb:B'≤B):w.ownsRow B' e size v n xs:=by
 obtain⟨h1,h2⟩:=h;refine⟨h1, ?_⟩;rcases h2 with h2|⟨g,cap,cur,hv,hg,hh⟩
 ·exact .inl h2
 ·exact .inr ⟨g,cap,cur,hv,Nat.le_trans hb hg,hh⟩
theorem kC.mono {B B':Nat} {w:World} {s:Fs} {v0 v1 v2 v3:Value} (h:kC B w s v0 v1 v2 v3) (hb:B'≤B):kC B' w s v0 v1 v2 v3:=⟨pN h.vars hb,pN h.uses hb,pN h.funcs hb,pN h.jh hb⟩
theorem kC.set {B R:Nat} {w:World} {s:Fs} {v0 v1 v2 v3:Value} (h:kC B w s v0 v1 v2 v3) (hR:R<B) (i:Nat) (x:Value):kC B (w.setCell ⟨R,i,none⟩ x) s v0 v1 v2 v3:=
 ⟨h.vars.kept (fU w R i x) (.inr fun e=>by have:=(h.vars.lt R e).1;omega),ct h.uses _ aa,ct h.funcs _ aa,ct h.jh _ aa⟩
theorem gV {w:World} {g i:Nat} {cs:Array Value} {t:TypeId} {v:Value} (h:w.heap[g]?=some (.cells cs t (0,0))) (hv:cs[i]?=some v):w.setCell ⟨g,i,none⟩ v=w:=by
 obtain⟨hg,he⟩:=Array.getElem?_eq_some_iff.1 h;obtain⟨hi,iq⟩:=Array.getElem?_eq_some_iff.1 hv;have e:(w.setCell ⟨g,i,none⟩ v).heap=w.heap:=by
  apply Array.ext_getElem?;intro k;by_cases hk:k=g
  ·subst hk;rw [bY h i v,h];congr 2;apply Array.ext_getElem?;intro j;rw [Array.getElem?_setIfInBounds];by_cases hj:i=j
   ·subst hj;simp [hi,iq]
   ·simp [hj]
  ·exact Below.heap_setCell _ _ _ _ (by simpa using hk)
 have e2:({w with heap:=(w.setCell ⟨g,i,none⟩ v).heap}:World)=w.setCell ⟨g,i,none⟩ v:=rfl;rw [←e2,e]
theorem sg (B:Nat) (w:World):kC B w uB (.slice none 0 0) (.slice none 0 0) (.slice none 0 0) (.slice none 0 0):=
 ⟨⟨rfl,.inl ⟨rfl,rfl⟩⟩,⟨rfl,.inl ⟨rfl,rfl⟩⟩,⟨rfl,.inl ⟨rfl,rfl⟩⟩,⟨rfl,.inl ⟨rfl,rfl⟩⟩⟩
theorem fu {fn:Func} {q u x:Tmp} {ty:TypeId} (h:fn.results=#[.cell q ty,.tmp u,.tmp x]) (tmps:Array Value) (P:Program) (w:World):
  (results fn tmps).run P w=
   ((asAddr (tmps.getD q undef)).run P w).andThen fun a w₁=>((loadVar ty a).run P w₁).andThen fun v w₂=>.ok (.tuple #[v,tmps.getD u undef,tmps.getD x undef]) w₂:=by
 simp only [results,h];simp [Sem.run_bind,Result.andThen]
def lZ (ns:List Nd) (w:World) (e:Ending) (w':World):Prop:=∃v0 v1 v2 v3,e=.returned (.tuple #[.agg #[v0,v1,v2,v3],.int .i64 (bC ns).2.1,.int .i64 (bC ns).2.2])∧Below w.heap.size w w'∧kC w.heap.size w' (bC ns).1 v0 v1 v2 v3
theorem uC {B g:Nat} {w:World} {x:Int} (h:w.heap[g]?=some (.cells #[.int .i64 x] 3 (0,0))) (hg:B≤g):Ints B w (.slice (some ⟨g,0,none⟩) 1 1) [x]:=
 ⟨rfl,.inr ⟨g,1,#[.int .i64 x],rfl,hg,h,Nat.le_refl _,by decide,rfl,rfl⟩⟩
theorem Ep {B:Nat} {w w3:World} {v1 v2 v3 v4 v5:Value} {u:List Int} {x y z:Int} (h:gH B w [v1,v2,v3,v4,v5] [u,[],[],[],[]]) (hb:Below w.heap.size w w3) (hB:B≤w.heap.size)
  (h1:w3.heap[w.heap.size]?=some (.cells #[.int .i64 x] 3 (0,0))) (h2:w3.heap[w.heap.size+1]?=some (.cells #[.int .i64 y] 3 (0,0))) (h3:w3.heap[w.heap.size+2]?=some (.cells #[.int .i64 z] 3 (0,0))):
  gH B w3 [v1,.slice (some ⟨w.heap.size,0,none⟩) 1 1,.slice (some ⟨w.heap.size+1,0,none⟩) 1 1,v4,.slice (some ⟨w.heap.size+2,0,none⟩) 1 1] [u,[x],[y],[],[z]]:=by
 have hl1:∀g,v1.ownBlock=some g→g<w.heap.size:=fun g e=>((h.rows 0 _ _ rfl rfl).lt g e).2
 have hl4:∀g,v4.ownBlock=some g→g<w.heap.size:=fun g e=>((h.rows 3 _ _ rfl rfl).lt g e).2
 have ap:=h.apart 0 3 v1 v4 ay rfl rfl;refine⟨rfl,fun i v l a b=>?_,fun i j v q hij a b g e e2=>?_⟩
 ·rcases i with _|_|_|_|_|i
  ·cases a;cases b;exact cC (h.rows 0 _ _ rfl rfl) hb
  ·cases a;cases b;exact uC h1 hB
  ·cases a;cases b;exact uC h2 aa
  ·cases a;cases b;exact cC (h.rows 3 _ _ rfl rfl) hb
  ·cases a;cases b;exact uC h3 aa
  ·simp at a
 ·have fresh:∀k,(Value.slice (some ⟨k,0,none⟩) 1 1).ownBlock=some k:=fun _=>rfl
  rcases i with _|_|_|_|_|i<;>rcases j with _|_|_|_|_|j<;>first
   |exact hij rfl
   |(simp at a;done)
   |(simp at b;done)
   |(cases a;cases b;rw [fresh] at e e2;injection e with e;injection e2 with e2;omega)
   |(cases a;cases b;rw [fresh] at e2;injection e2 with e2;have:=hl1 g e;omega)
   |(cases a;cases b;rw [fresh] at e2;injection e2 with e2;have:=hl4 g e;omega)
   |(cases a;cases b;rw [fresh] at e;injection e with e;have:=hl1 g e2;omega)
   |(cases a;cases b;rw [fresh] at e;injection e with e;have:=hl4 g e2;omega)
   |(cases a;cases b;exact ap g e e2)
   |(cases a;cases b;exact ap g e2 e)
def fy (k:Nat):Fs:=⟨[],List.replicate k (-1),[-1],[-1],[],[0],0,0⟩
def jB (w:World) (FB:Nat):World:=((((((w.setCell ⟨FB,3,none⟩ (.slice (some ⟨w.heap.size,0,none⟩) 1 1)).setCell ⟨FB,4,none⟩ (.slice (some ⟨w.heap.size+1,0,none⟩) 1 1)).setCell ⟨FB,6,none⟩ (.slice (some ⟨w.heap.size+1+1,0,none⟩) 1 1)).alloc (.cells #[.int .i64 (-1)] 3)).alloc (.cells #[.int .i64 (-1)] 3)).alloc (.cells #[.int .i64 0] 3))
theorem Ig (w:World) (FB:Nat) (h:FB<w.heap.size):jB w FB=((((((w.alloc (.cells #[.int .i64 (-1)] 3)).alloc (.cells #[.int .i64 (-1)] 3)).alloc (.cells #[.int .i64 0] 3)).setCell ⟨FB,3,none⟩ (.slice (some ⟨w.heap.size,0,none⟩) 1 1)).setCell ⟨FB,4,none⟩ (.slice (some ⟨w.heap.size+1,0,none⟩) 1 1)).setCell ⟨FB,6,none⟩ (.slice (some ⟨w.heap.size+2,0,none⟩) 1 1)):=by
 unfold jB;have h1:FB<w.heap.size+1:=aa;have h2:FB<w.heap.size+1+1:=aa;simp [go_sem,h,h1,h2]
theorem zG (w:World) (FB:Nat) (h:FB<w.heap.size):Below FB w (jB w FB):=by
 unfold jB;exact((((((Below.refl FB w).setCell (p:=⟨FB,3,none⟩) (Nat.le_refl _) _).setCell (p:=⟨FB,4,none⟩) (Nat.le_refl _) _).setCell (p:=⟨FB,6,none⟩) (Nat.le_refl _) _).alloc aV _).alloc aV _).alloc aV _
theorem BK (w:World) (FB:Nat) (h:FB<w.heap.size):cA FB w (jB w FB):=by
 unfold jB;exact((((((cE 3 _).trans (cE 4 _)).trans (cE 6 _)).trans (bW (aL _ _))).trans (bW (aL _ _))).trans (bW (aL _ _)))
theorem bz.start {FB c L k:Nat} {p:Option Addr} {w:World} {v0 v1 v2 v3 v4 v5:Value} (h:bz FB p c L w (oG k) v0 v1 v2 v3 v4 v5):
  bz FB p c L (jB w FB) (fy k) v0 v1 (.slice (some ⟨w.heap.size,0,none⟩) 1 1) (.slice (some ⟨w.heap.size+1,0,none⟩) 1 1) v4 (.slice (some ⟨w.heap.size+2,0,none⟩) 1 1):=by
 rw [Ig w FB h.lt];obtain⟨w3,hw3⟩:∃w3,w3=((w.alloc (.cells #[.int .i64 (-1)] 3)).alloc (.cells #[.int .i64 (-1)] 3)).alloc (.cells #[.int .i64 0] 3):=⟨_,rfl⟩;rw [←hw3];have hb:Below w.heap.size w w3:=by rw [hw3];exact(((aL w _).alloc ai _).alloc aV _)
 have hl:=h.lt;have h2:=Ep (w3:=w3) (x:=-1) (y:=-1) (z:=0) h.rows hb aa
  (by rw [hw3];exact((aL _ _).block _ aV).trans (((aL _ _).block _ ai).trans (heap_alloc_new _ _)))
  (by rw [hw3];exact((aL _ _).block _ ai).trans (by have:=heap_alloc_new (w.alloc (.cells #[.int .i64 (-1)] 3)) (.cells #[.int .i64 (-1)] 3);simpa using this))
  (by rw [hw3];have:=heap_alloc_new ((w.alloc (.cells #[.int .i64 (-1)] 3)).alloc (.cells #[.int .i64 (-1)] 3)) (.cells #[.int .i64 0] 3);simpa using this)
 have h1:w3.heap[FB]?=some (.cells #[.slice p L c,v0,v1,v2,v3,v4,v5,.int .i64 0,.int .i64 0] 61 (0,0)):=by rw [hb.block _ hl];exact h.heap
 have h3:w3.ownsRow (FB+1) 37 4 v0 0 []:=cC h.vars hb;have k1:=bY h1 3 (.slice (some ⟨w.heap.size,0,none⟩) 1 1);have k2:=bY k1 4 (.slice (some ⟨w.heap.size+1,0,none⟩) 1 1);have k3:=bY k2 6 (.slice (some ⟨w.heap.size+2,0,none⟩) 1 1);have m1:=h3.kept (fU w3 FB 3 (.slice (some ⟨w.heap.size,0,none⟩) 1 1)) (.inr (fA h3 h1 ay));have m2:=m1.kept (fU _ FB 4 (.slice (some ⟨w.heap.size+1,0,none⟩) 1 1)) (.inr (fA m1 k1 ay));have m3:=m2.kept (fU _ FB 6 (.slice (some ⟨w.heap.size+2,0,none⟩) 1 1)) (.inr (fA m2 k2 ay));exact⟨by rw [k3];rfl,ir (ir (ir h2 3 _) 4 _) 6 _,m3⟩
theorem BL (w:World) (p:Option Addr) (c:Nat) (ns:List Nd) (hs:Small ns) (hc:eZ ns) (ha:aj w p ns) (hl0:bu w) (he:(aS ns).2≠0):
  Calls Tryz.prog 11 #[.slice p ns.length c] w (lZ ns w):=by
 have hch:∀W,Below w.heap.size w W→Calls Tryz.prog 24 #[.slice p ns.length c] W fun e w'=>e=.returned (.tuple #[.int .i64 (aS ns).1,.int .i64 (aS ns).2])∧Below W.heap.size W w':=fun W hW=>uD W p c ns hs hc (eP hW ha) (bu.later hl0 hW)
 have Hch:=hid hch;have hout:bC ns=(uB,(aS ns).1,(aS ns).2):=by unfold bC;rw [if_pos he]
 unfold lZ;rw [hout];clear hch hs hc ha hl0 hout;generalize (aS ns).1=a at*;generalize (aS ns).2=b at*;generalize ns.length=L at*;go_enter Tryz.func11,Tryz.ntmps11;go_wp2_with (go_at_call 24;((with_reducible refine(Hch.out _ sY).mono ?_));rintro e w' ⟨rfl,hb⟩;obtain⟨g,rfl⟩:=aA hb;clear hb);refine bodyPost_ret (v:=.tuple #[.agg #[.slice none 0 0,.slice none 0 0,.slice none 0 0,.slice none 0 0],.int .i64 a,.int .i64 b]) (by rw [fu rfl];simp [go_sem]) rfl ?_;exact⟨_,_,_,_,rfl,cH,sg _ _⟩
def XQ (FB:Nat) (A E:Int):Nat→World→Value→Prop
 |0,w,v=>v=.agg #[.slice none 0 0,.slice none 0 0,.slice none 0 0,.slice none 0 0]
 |1,w,v=>v=.pointer (some ⟨FB,0,none⟩)
 |2,w,v=>v=.pointer (some ⟨FB,0,none⟩)
 |3,w,v=>v=.pointer (some ⟨FB,7,none⟩)
 |4,w,v=>v=.int .i64 A
 |5,w,v=>v=.pointer (some ⟨FB,0,none⟩)
 |6,w,v=>v=.pointer (some ⟨FB,0,none⟩)
 |7,w,v=>v=.pointer (some ⟨FB,8,none⟩)
 |8,w,v=>v=.int .i64 E
 |9,w,v=>True
 |10,w,v=>v=.int .i64 A
 |_,w,v=>v=.int .i64 E
theorem Ih {FB:Nat} {A E:Int}:∀(i j:Nat) (w w':World) (v:Value),i≠j→(fun _ _=>false:Nat→Nat→Bool) i j=false→(fun _ w w'=>w'=w:Nat→World→World→Prop) i w w'→XQ FB A E j w v→XQ FB A E j w' v:=by
 intro i j w w' v _ _ hS h;have:w'=w:=hS;subst this;exact h
theorem Er (w:World) (p:Option Addr) (c:Nat) (ns:List Nd) (hs:Small ns) (hc:eZ ns) (ha:aj w p ns) (hl0:bu w) (he:(aS ns).2=0):
  Calls Tryz.prog 11 #[.slice p ns.length c] w (lZ ns w):=by
 have hch:∀W,Below w.heap.size w W→Calls Tryz.prog 24 #[.slice p ns.length c] W fun e w'=>e=.returned (.tuple #[.int .i64 (aS ns).1,.int .i64 0])∧Below W.heap.size W w':=fun W hW=>by have:=uD W p c ns hs hc (eP hW ha) (bu.later hl0 hW);unfold pn at this;rw [he] at this;exact this
 have Hch:=hid hch;have Ds:=hid (Ge he);have Hlk:=hid (K8 he);have Hhe:=hid he;obtain⟨_,hL1,hwt⟩:=taken he;have Hwt:=hid hwt;have HN:=hid ha;have hL5:(ns.length:Int)≤5000:=by have:=hs.1;omega
 have UA:(1:Int)≤(ns.length:Int):=aa;have sZ:=hid hc;have Hs:=hid hs;unfold lZ;clear hch hs hc ha hl0 he hwt;generalize (aS ns).1=a at*;go_enter Tryz.func11,Tryz.ntmps11;go_wp2_with (go_at_call 24;((with_reducible refine(Hch.out _ sY).mono ?_));rintro e w' ⟨rfl,hb⟩;obtain⟨g,rfl⟩:=aA hb;clear hb);obtain⟨FB,JO⟩:∃FB,FB=w.heap.size+1+g.size:=⟨_,rfl⟩;rw [←JO];obtain⟨wa,mg⟩:∃wa,wa=grow (w.alloc (.cells #[Value.slice none 0 0,Value.slice none 0 0,Value.slice none 0 0,Value.slice none 0 0] 33)) g:=⟨_,rfl⟩;rw [←mg];have K9:wa.heap.size=FB:=by rw [mg,JO];simp
 have XR:Below w.heap.size w wa:=by rw [mg];repeat (first|exact Below.refl _ _|refine bG ?_ _|refine bA ?_ _)
 have abY:wa.heap[w.heap.size]?=some (.cells #[Value.slice none 0 0,Value.slice none 0 0,Value.slice none 0 0,Value.slice none 0 0] 33 (0,0)):=by
  rw [mg];exact(dS _ g _ ai).trans (heap_alloc_new _ _)
 have hcell:=hid abY;have hNa:=hid (eP XR HN.out);have afC:=hid XR;clear mg abY XR Hch;obtain⟨w1,uE⟩:∃w1,w1=wa.alloc (.cells #[Value.slice p ns.length c,Value.slice none 0 0,Value.slice none 0 0,Value.slice none 0 0,Value.slice none 0 0,Value.slice none 0 0,Value.slice none 0 0,Value.int IntKind.i64 0,Value.int IntKind.i64 0] 61):=⟨_,rfl⟩;rw [←uE];have kj:bz FB p c ns.length w1 (oG 0) (.slice none 0 0) (.slice none 0 0) (.slice none 0 0) (.slice none 0 0) (.slice none 0 0) (.slice none 0 0):=by
  refine⟨by rw [uE,←K9];exact heap_alloc_new _ _,⟨rfl,fun i v l a b=>?_,fun i j v u _ a b g e=>?_⟩,⟨rfl,.inl ⟨rfl,rfl⟩⟩⟩
  ·have hv:v=.slice none 0 0:=by
    rcases i with _|_|_|_|_|i<;>simp at a<;>exact a.symm
   have hl:l=[]:=by
    rcases i with _|_|_|_|_|i<;>simp [Fs.rows,oG] at b<;>first|exact b|exact b.symm
   subst hv hl;exact⟨rfl,.inl ⟨rfl,rfl⟩⟩
  ·have hv:v=.slice none 0 0:=by
    rcases i with _|_|_|_|_|i<;>simp at a<;>exact a.symm
   subst hv;simp [Value.ownBlock] at e
 have abZ:w1.heap.size=FB+1:=by rw [uE];simp [K9]
 have hb1:Below FB wa w1:=by rw [uE,←K9];exact aL _ _
 have Hb1:=hid hb1;have HF1:=hid kj;have hr1:w1.heap[w.heap.size]?=some (.cells #[Value.slice none 0 0,Value.slice none 0 0,Value.slice none 0 0,Value.slice none 0 0] 33 (0,0)):=by rw [hb1.block _ aa];exact hcell.out
 have Hr1:=hid hr1;have PL:w.heap.size<FB:=aa;have Hws:=hid K9;have aj4:=hid abZ;clear uE kj hb1 hr1 JO K9 abZ;go_loopw [24] (fun iv wr=>∃j:Nat,iv=.int .i64 j∧j≤ns.length∧Hid (FP FB p c ns.length (oG j) w1 wr)) (fun iv _=>ns.length - (intOf iv).toNat)
 case atStart=>exact⟨0,rfl,Nat.zero_le _,hid (HF1.out.fp (Below.refl _ _) (cA.refl _ _) (Nat.le_refl _))⟩
 case round=>
  obtain⟨j,rfl,hj,hJ⟩:=hrel;obtain⟨r0,r1,r2,r3,r4,r5,gQ⟩:=hJ.out.wH;have XS:=hid gQ;have hj0:(0:Int)≤(j:Int):=aa;have hrs:=gQ.lt;by_cases hjL:j<ns.length
  ·have hj1:(j:Int)<(ns.length:Int):=by omega
   have c2:wr.cell? ⟨FB,2,none⟩=some r1:=gQ.cell 2;have f2:wr.frozen? ⟨FB,2,none⟩=false:=gQ.frozen 2;have XT:=aL wr (.cells #[.int .i64 (-1)] 3);have HA:=hid (gQ.later XT);have HbA:=hid XT;have hr1:=gQ.rows.rows 0 _ _ rfl rfl;have afD:=hid hr1;clear gQ XT hr1;go_wp2_with (at_builtin;go_loud (refine fc rfl _ _ rfl (FB+1) r1 (List.replicate j (-1)) (-1) wr.heap.size 1 rfl ?DT rfl ?FX ?Ki ?tW ?tX))
   case DT=>exact cC afD.out HbA.out
   case FX=>
    have:=heap_alloc_new wr (.cells #[.int .i64 (-1)] 3);simp only [World.cell?];rw [this];rfl
   case Ki=>simp;omega
   case tW=>simp;omega
   case tX=>
    intro v' W1 k1 k2 k3;have h8:=HA.out.La k2 k1 (by simpa using k3);obtain⟨vo,vn,vc,rfl⟩:∃vo vn vc,v'=.slice vo vn vc:=by
     exact UO
    have hne:=zH (HA.out.rows.rows 0 _ _ rfl rfl) HA.out.heap ay;have XU:W1.heap[FB]?=some (.cells #[.slice p ns.length c,r0,r1,r2,r3,r4,r5,.int .i64 0,.int .i64 0] 61 (0,0)):=by rw [k2.block FB HA.out.lt (fun e=>hne e.symm)];exact HA.out.heap
    have c2w:W1.cell? ⟨FB,2,none⟩=some r1:=by simp [World.cell?,XU]
    have f2w:W1.frozen? ⟨FB,2,none⟩=false:=by simp [World.frozen?,XU]
    have zI:∀k,r1.ownBlock=some k→FB≤k:=fun k hk=>by have:=((HA.out.rows.rows 0 _ _ rfl rfl).lt k hk).1;omega
    have hP8:=hid ((hJ.out.later HbA.out aa).trans (h8.fp (((Below.refl FB _).grown k2 (by have:=HA.out.lt;omega) zI).setCell (p:=⟨FB,2,none⟩) (Nat.le_refl _) _) ((mh (HA.out.rows.rows 0 _ _ rfl rfl) k2).trans (cE 2 _)) (by simpa using k2.size)));clear h8 k1 k2 k3 hne XU zI;go_wp2;go_roundw
    case rel=>
     refine⟨j+1,by go_num,by omega,hid ?_⟩;have:=hP8.out;have e:({oG j with uses:=(List.replicate j (-1):List Int)++[-1]}:Fs)=oG (j+1):=by unfold oG;rw [List.replicate_succ']
     rw [←e];exact this
    case measure=>simp [intOf];omega
  ·obtain rfl:j=ns.length:=by omega
   obtain⟨m,hm⟩:∃m,ns.length=m+1:=⟨ns.length - 1,by omega⟩;have AV:m<ns.length:=aa;have lD:(ns.length:Int) - 1=(m:Int):=aa;have Hm:=hid hm;have hbF:Below FB wa wr:=Hb1.out.trans hJ.out.below;have HbF:=hid hbF;obtain⟨b,o,hp,dz,eO,bg,_,_,k2,_⟩:=aY hNa.out AV;have UQ:b<FB:=by have:=Hws.out;omega
   have k2r:wr.cell? ⟨b,o+m*4+2,none⟩=some (.slice ns[m].kp ns[m].kids.length ns[m].aC):=(hbF.cell (p:=⟨b,_,none⟩) UQ).trans k2;have cX:aF ns (m:Int)=ns[m].kids:=mj;have hlk:=Hlk.out;rw [show ns.length - 1=m by omega,cX] at hlk;obtain⟨y,hy⟩:∃y,ns[m].kids.length=y+1:=⟨ns[m].kids.length - 1,by omega⟩;have DA:y<ns[m].kids.length:=aa;obtain⟨bk,ok,iW,Ii,td⟩:=cF bg DA;have dy:=(hbF.cell (p:=⟨bk,_,none⟩) (show bk<FB by have:=Hws.out;omega)).trans td;have jx:ns[m].kids.getD y 0=ns[m].kids[y]:=by simp [List.getD,List.getElem?_eq_getElem DA]
   have eC:=(gW Ds.out (n:=(m:Int)) aa) ns[m].kids[y] (by rw [cX];exact List.getElem_mem DA);rw [jx] at dy;obtain⟨z,hz⟩:∃z:Nat,ns[m].kids[y]=(z:Int):=⟨(ns[m].kids[y]).toNat,by omega⟩;rw [hz] at eC dy;have hzl:z<ns.length:=aa;have hwz:1+wt ns z≤wt ns m:=by
    have e1:=gX Ds.out m;have e2:=dJ (ns:=ns) (aF ns (m:Int)) y (by rw [cX];exact DA);rw [e1];have e3:(aF ns (m:Int))[y]'(by rw [cX];exact DA)=(z:Int):=by simp only [cX];exact hz
    rw [e3] at e2;have e4:((z:Int)).toNat=z:=rfl;rw [e4] at e2;omega
   have ab1:=Hwt.out;rw [show ns.length - 1=m by omega] at ab1;have UR:bp ns=aH ns ns.length (z:Int) ((0:Nat):Int) false (fy ns.length):=by
    unfold bp;simp only;rw [lD,cX,hy,show y+1 - 1=y by omega,jx,hz];rfl
   have ab2:=hid UR;have hst:=XS.out.start;have hinv:eF ns.length (fy ns.length):=⟨by simp [fy],by simp [fy],by simp [fy],by simp [fy],by simp [fy],by simp [fy],by simp [fy]⟩;have XV:=hid (BK wr FB hrs);have UT:=hid (zG wr FB hrs);have gR:=Lb Ds.out hNa.out sZ.out (by have:=Hws.out;omega) ns.length z hzl hzl 0 false _ (fy ns.length) ⟨_,_,_,_,_,_,hst⟩ hinv (hbF.trans UT.out) (by simp [fy]) (by simp [fy];omega) (by simp [fy];omega);rw [←ab2.out] at gR;have HWz:=hid (show jB wr FB=jB wr FB from rfl);unfold jB at gR;have Gf:=hid gR;have hy9:(y:Int)≤20000:=by have:=(Hs.out.2 ns[m] (List.getElem_mem AV)).1;omega
   have c3:wr.cell? ⟨FB,3,none⟩=some r2:=gQ.cell 3;have c4:wr.cell? ⟨FB,4,none⟩=some r3:=gQ.cell 4;have c6:wr.cell? ⟨FB,6,none⟩=some r5:=gQ.cell 6;have f3:=gQ.frozen 3;have f4:=gQ.frozen 4;have f6:=gQ.frozen 6;have aj9:¬b=FB:=aa;have aka:¬FB=b:=aa;have akb:¬bk=FB:=by have:=Hws.out;omega
   have akc:¬FB=bk:=aa;have hy1:((y+1:Nat):Int) - 1=(y:Int):=aa;have y0:(0:Int)≤(y:Int):=aa;have UU:b<wr.heap.size:=aa;have akd:bk<wr.heap.size:=by have:=Hws.out;omega
   have m0:(0:Int)≤(m:Int):=aa;have m2:(m:Int)<(ns.length:Int):=aa;rw [iW,hy] at k2r;rw [hp];rw [hp] at Gf;clear hst hinv gR UR gQ k2 cX hlk jx hz iW td eO bg hbF hwz ab1 hm DA hy;go_wp2_with (go_at_call 31;refine Gf.out.mono ?_);intro e w9 hh
   first|(subst hh;intro nr)|(obtain⟨rfl,nr⟩:=hh)
   obtain⟨q0,q1,q2,q3,q4,q5,gQ⟩:=nr.wH;have jJ:=XV.out.trans nr.keep;have UW:w9.heap[w.heap.size]?=some (.cells #[Value.slice none 0 0,Value.slice none 0 0,Value.slice none 0 0,Value.slice none 0 0] 33 (0,0)):=jJ _ _ _ (hJ.out.keep _ _ _ Hr1.out ay ay aa) ay ay aa;have hb9:Below FB wa w9:=(HbF.out.trans UT.out).trans nr.below;have XW:Below w.heap.size w w9:=afC.out.trans (hb9.mono aa);have c8:w9.cell? ⟨FB,8,none⟩=some (.int .i64 (bp ns).e):=gQ.cell 8;have c7:w9.cell? ⟨FB,7,none⟩=some (.int .i64 (bp ns).aT):=gQ.cell 7;have R0:w9.cell? ⟨w.heap.size,0,none⟩=some (.slice none 0 0):=by simp [World.cell?,UW]
   have R1:w9.cell? ⟨w.heap.size,1,none⟩=some (.slice none 0 0):=by simp [World.cell?,UW]
   have R2:w9.cell? ⟨w.heap.size,2,none⟩=some (.slice none 0 0):=by simp [World.cell?,UW]
   have R3:w9.cell? ⟨w.heap.size,3,none⟩=some (.slice none 0 0):=by simp [World.cell?,UW]
   have Rf:∀k,w9.frozen? ⟨w.heap.size,k,none⟩=false:=fun k=>by simp [World.frozen?,UW]
   have Rf0:=Rf 0;have Rf1:=Rf 1;have Rf2:=Rf 2;have Rf3:=Rf 3;have HR9:=hid UW;have ab4:=hid XW;have Ql:=hid gQ;have akf:¬w.heap.size=FB:=aa;have akg:¬FB=w.heap.size:=aa;by_cases h0e:(bp ns).e=0
   ·have hout:bC ns=(bp ns,0,0):=by unfold bC;rw [if_neg (by rw [Hhe.out];decide),if_neg (by rw [h0e];decide)]
    have XX:=hid hout;rw [h0e] at c8;have d1:w9.cell? ⟨FB,1,none⟩=some q0:=gQ.cell 1;have d2:w9.cell? ⟨FB,2,none⟩=some q1:=gQ.cell 2;have d3:w9.cell? ⟨FB,3,none⟩=some q2:=gQ.cell 3;have d4:w9.cell? ⟨FB,4,none⟩=some q3:=gQ.cell 4;obtain⟨a0,b0,e0,rfl⟩:∃a n c,q0=.slice a n c:=by
     rcases gQ.vars.2 with⟨e1,_⟩|⟨g,cap,cur,e1,_⟩
     ·exact⟨_,_,_,e1⟩
     ·exact⟨_,_,_,e1⟩
    obtain⟨a1,b1,e1,rfl⟩:∃a n c,q1=.slice a n c:=by
     obtain⟨x1,x2,x3,_⟩:=mo (gQ.rows.rows 0 _ _ rfl rfl) (Nat.le_refl _);exact⟨_,_,_,x3⟩
    obtain⟨a2,b2,e2,rfl⟩:∃a n c,q2=.slice a n c:=by
     obtain⟨x1,x2,x3,_⟩:=mo (gQ.rows.rows 1 _ _ rfl rfl) (Nat.le_refl _);exact⟨_,_,_,x3⟩
    obtain⟨a3,b3,e3,rfl⟩:∃a n c,q3=.slice a n c:=by
     obtain⟨x1,x2,x3,_⟩:=mo (gQ.rows.rows 2 _ _ rfl rfl) (Nat.le_refl _);exact⟨_,_,_,x3⟩
    clear gQ jJ UW hb9 XW hout nr Rf;go_wp2;refine bodyPost_ret (v:=.tuple #[.agg #[.slice a0 b0 e0,.slice a1 b1 e1,.slice a2 b2 e2,.slice a3 b3 e3],.int .i64 0,.int .i64 0]) (by rw [fu rfl];simp [go_sem,R0,R1,R2,R3]) rfl ?_;rw [XX.out];have hsc:kC (FB+1) w9 (bp ns) (.slice a0 b0 e0) (.slice a1 b1 e1) (.slice a2 b2 e2) (.slice a3 b3 e3):=⟨Ql.out.vars,Ql.out.rows.rows 0 _ _ rfl rfl,Ql.out.rows.rows 1 _ _ rfl rfl,Ql.out.rows.rows 2 _ _ rfl rfl⟩;refine⟨_,_,_,_,rfl,(((ab4.out.setCell (p:=⟨w.heap.size,0,none⟩) (Nat.le_refl _) _).setCell (p:=⟨w.heap.size,1,none⟩) (Nat.le_refl _) _).setCell (p:=⟨w.heap.size,2,none⟩) (Nat.le_refl _) _).setCell (p:=⟨w.heap.size,3,none⟩) (Nat.le_refl _) _, ?_⟩;exact((((hsc.set aa 0 _).set aa 1 _).set aa 2 _).set aa 3 _).mono aa
   ·have hout:bC ns=(uB,(bp ns).aT,(bp ns).e):=by unfold bC;rw [if_neg (by rw [Hhe.out];decide),if_pos h0e]
    have XX:=hid hout;clear gQ jJ UW hb9 XW hout nr Rf;go_wp2;refine wp_region_any ak ?_;obtain⟨wq,PM⟩:∃wq:World,wq=w9.drew:=⟨_,rfl⟩;have hq7:wq.cell? ⟨FB,7,none⟩=some (.int .i64 (bp ns).aT):=by rw [PM];exact c7
    have hq8:wq.cell? ⟨FB,8,none⟩=some (.int .i64 (bp ns).e):=by rw [PM];exact c8
    have hqR:wq.heap[w.heap.size]?=some (.cells #[Value.slice none 0 0,Value.slice none 0 0,Value.slice none 0 0,Value.slice none 0 0] 33 (0,0)):=by rw [PM];exact HR9.out
    refine Am.ew (Φ:=XQ FB (bp ns).aT (bp ns).e) (I:=fun _ _ w1=>w1=wq) (S:=fun _ w w'=>w'=w) ak ak (fun _ _=>false) (fun z=>by unfold Am.nt;exact List.all_eq_true.2 fun _ _=>rfl) Ih ?_ ?_ _ PM.symm
    ·intro kq o ca w1 f ho hI XY hbh aJ K hK;have hI:w1=wq:=hI;subst hI;have hc7:=hq7;have hc8:=hq8;have hR0:w1.cell? ⟨w.heap.size,0,none⟩=some (.slice none 0 0):=si;have nu:w1.cell? ⟨w.heap.size,1,none⟩=some (.slice none 0 0):=si;have qM:w1.cell? ⟨w.heap.size,2,none⟩=some (.slice none 0 0):=si;have hR3:w1.cell? ⟨w.heap.size,3,none⟩=some (.slice none 0 0):=si;have hRf:∀k,w1.frozen? ⟨w.heap.size,k,none⟩=false:=fun k=>by simp [World.frozen?,hqR]
     have hS0:w1.setCell ⟨w.heap.size,0,none⟩ (.slice none 0 0)=w1:=gV hqR rfl;have hS1:w1.setCell ⟨w.heap.size,1,none⟩ (.slice none 0 0)=w1:=gV hqR rfl;have DC:w1.setCell ⟨w.heap.size,2,none⟩ (.slice none 0 0)=w1:=gV hqR rfl;have hS3:w1.setCell ⟨w.heap.size,3,none⟩ (.slice none 0 0)=w1:=gV hqR rfl;have hfn:∀f,ca.eval (.func f)=.func (.func f) #[] #[]:=fun _=>rfl
     have hcs:∀v,ca.eval (.const v)=v:=fun _=>rfl
     rcases kq with _|_|_|_|_|_|_|_|_|_|_|_|kq
     ·cases ho;refine Am.rv rfl rfl (hK _ _ rfl rfl rfl) ?_;exact Es
     ·exact Lc
     ·cases ho;have dw:=Am.lk 73 1 aJ fun _=>rfl
      exact qN
     ·cases ho;have dw:=Am.lk 74 2 aJ fun _=>rfl
      exact qN
     ·cases ho;have dw:=Am.lk 75 3 aJ fun _=>rfl
      refine Am.rv rfl rfl (hK _ _ rfl rfl rfl) ?_;generalize ca.eval=ev at*;simp [go_sem,execOp,hfn,hcs,dw,hc7]
     ·exact Lc
     ·cases ho;have dw:=Am.lk 77 5 aJ fun _=>rfl
      exact qN
     ·cases ho;have dw:=Am.lk 78 6 aJ fun _=>rfl
      exact qN
     ·cases ho;have dw:=Am.lk 79 7 aJ fun _=>rfl
      refine Am.rv rfl rfl (hK _ _ rfl rfl rfl) ?_;generalize ca.eval=ev at*;simp [go_sem,execOp,hfn,hcs,dw,hc8]
     ·cases ho;have dw:=Am.lo 2 aJ rfl;have e2_:=Am.lk 72 0 aJ fun _=>rfl
      refine Am.cq rfl rfl (wp_skip (w':=w1) ?_ (hK undef _ rfl rfl trivial));generalize ca.eval=ev at*;simp [go_sem,execOp,hfn,hcs,dw,e2_,hR0,nu,qM,hR3,hRf,hS0,hS1,DC,hS3]
     ·cases ho;have dw:=Am.lk 76 4 aJ fun _=>rfl
      exact qN
     ·cases ho;have dw:=Am.lk 80 8 aJ fun _=>rfl
      exact qN
     ·simp at ho
    ·intro ca w5 f hI hall hd hs dB fM;have hI:w5=wq:=hI;subst hI;have h3:ca.tmps.getD 3 undef=.int .i64 (bp ns).aT:=dB 10 _ 3 rfl rfl (fun _=>rfl);have h4:ca.tmps.getD 4 undef=.int .i64 (bp ns).e:=dB 11 _ 4 rfl rfl (fun _=>rfl);have jM:=Am.jN hd hs fM;simp only [List.foldl_cons,List.foldl_nil,h3,h4] at jM;obtain⟨yf,UX⟩:∃y:Nat→Value,∀t,ca.tmps.getD t undef=y t:=⟨_,fun _=>rfl⟩;simp only [UX] at jM;clear UX;clear h3 h4 dB fM hall hd hs;subst jM;simp only [List.setIfInBounds_toArray,List.set_cons_succ,List.set_cons_zero];have HS5:=hid PM;clear PM;go_wp2;have hR0:w5.cell? ⟨w.heap.size,0,none⟩=some (.slice none 0 0):=si;have nu:w5.cell? ⟨w.heap.size,1,none⟩=some (.slice none 0 0):=si;have qM:w5.cell? ⟨w.heap.size,2,none⟩=some (.slice none 0 0):=si;have hR3:w5.cell? ⟨w.heap.size,3,none⟩=some (.slice none 0 0):=si;refine bodyPost_ret (v:=.tuple #[.agg #[.slice none 0 0,.slice none 0 0,.slice none 0 0,.slice none 0 0],.int .i64 (bp ns).aT,.int .i64 (bp ns).e]) (by rw [fu rfl];simp [go_sem,hR0,nu,qM,hR3]) rfl ?_;rw [XX.out];exact⟨_,_,_,_,rfl,by rw [HS5.out];exact ab4.out.drew,sg _ _⟩
theorem Ij (w:World) (p:Option Addr) (c:Nat) (ns:List Nd) (hs:Small ns) (hc:eZ ns) (ha:aj w p ns) (hl0:bu w):
  Calls Tryz.prog 11 #[.slice p ns.length c] w (lZ ns w):=by
 by_cases he:(aS ns).2=0
 ·exact Er w p c ns hs hc ha hl0 he
 ·exact BL w p c ns hs hc ha hl0 he
end Go.Proofs.YtbgjanmheagilaaGreatDoor