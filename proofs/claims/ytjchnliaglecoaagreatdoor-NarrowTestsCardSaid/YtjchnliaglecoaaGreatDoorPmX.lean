/- A part of the proof. Conditions: none. -/
import Derived.Test.YtjchnliaglecoaaGreatDoorZz
import Derived.Test.YtjchnliaglecoaaGreatDoorPkX
import Derived.Test.YtjchnliaglecoaaGreatDoorAmV
set_option linter.unusedVariables false
set_option linter.unusedSimpArgs false
set_option maxRecDepth 100000
set_option maxHeartbeats 8000000
namespace Go.Proofs.YtjchnliaglecoaaGreatDoor
open Go Go.RowKit Go.Nodes Go.Am Go.Shelf
attribute [local go_sem] Oper.semAt_some
def FA (YF TP:Value) (ii vv kk:Int):Nat→World→Value→Prop
 |0,_,v=>v=YF
 |1,_,v=>v=TP
 |2,_,v=>v=.int .i64 ii
 |3,_,v=>v=.int .i64 vv
 |4,_,v=>v=.int .i64 kk
 |5,_,v=>v=.agg #[.int .i64 vv,.int .i64 kk]
 |6,_,v=>True
 |_,_,v=>True
theorem vZ {YF TP:Value} {ii vv kk:Int}:∀(j:Nat) (w w':World) (v:Value),FA YF TP ii vv kk j w v→FA YF TP ii vv kk j w' v:=by
 intro j w w' v h;unfold FA at*;split at h<;>exact h
theorem PT (nn:Nat) (w0:World) (N ob M:Nat) (J Jx:List (Int × Int)→World→Prop) (p:Option Addr) (c:Nat) (ns:List Nd) (ha:ay w0 p ns) (ht:Tree ns) (v0 v1 v2 v3:Value) (s:Fs) (hs:nc w0 v0 v1 v2 v3 s) (hf:Fit ns s) (tb mb TB YB DB l:Nat)
  (hJ:∀pr A B,J pr A→Below A.heap.size A B→J pr B) (hw0:w0.heap.size≤N)
  (hY:∀m pre x W,J pre W→pre.length<M→YieldAt Fence.wide m Tryz.prog l (qT x) W fun e W'=>(e=.returned (.bool true)∧J (pre++[x]) W'∧Kt w0.heap.size N ob W W')∨(e=.returned (.bool false)∧Jx (pre++[x]) W'))
  (k i:Nat) (hi:i<ns.length) (az:aq ns (i:Int)=17):pS nn w0 N ob M J Jx p c ns v0 v1 v2 v3 s tb mb TB YB DB l (k+1) i:=by
 intro yes pr W hE FC hM;have hdd:∀k:Nat,(Fence.wide.depth.isSome=true→1≤k):=fun k h=>by cases h
 have uKq:=aF hE.below ha;obtain⟨b,o,hp,bO,ct,aG,k0,k1,k2,k3⟩:=bh uKq hi;have cD:=aL ct;rw [az] at cD;obtain⟨R,hR⟩:∃R,R=aW ns s.vars s.uses (k+1) i yes:=⟨_,rfl⟩;rw [←hR] at hM ⊢;unfold aW at hR;rw [if_pos az] at hR;have hs1:=hs.later hE.below;have H5:Hid (∀w1,Below W.heap.size W w1→Calls Tryz.prog 125 #[.pointer (some ⟨tb,0,none⟩),.int .i64 i] w1 fun e w'=>e=.returned (.int .i64 (fL ns s.vars s.uses i))∧Below w1.heap.size w1 w'):=hid fun w1 hw=>FD w1 p c ns (aF hw uKq) v0 v1 v2 v3 s (hs1.later hw) hf tb mb (hE.tell.later hw) i hi
 generalize fL ns s.vars s.uses i=v at*;obtain⟨⟨p0,c0,rfl,h0⟩,⟨p1,c1,rfl,h1⟩,⟨p2,c2,rfl,h2⟩,⟨p3,c3,rfl,h3⟩,_⟩:=hs;clear h0 h1 h2 h3 hs1 uKq ha;have t0:=hE.tT.cell;have t1:=hE.tU.cell;have t2:=hE.o7.cell;have l0:=hE.tT.lt;have l1:=hE.tU.lt;have l2:=hE.o7.lt;have x0:=hE.tell.cell 0;have ltb:=hE.tell.lt;simp only [List.getElem?_toArray,List.getElem?_cons_zero,List.getElem?_cons_succ] at x0;have HE:=hid hE;have a0:(0:Int)≤(i:Int):=af;have a1:(i:Int)<(ns.length:Int):=af;generalize ns[i]=x at*;obtain⟨xk,xt,xp,xc,dx,eY⟩:=x;simp only at k0 k1 k2 k3 cD;subst cD;subst hp;have HR:=hid hR;have HM:=hid hM;have Iw:=hid FC;have HJ:=hid hJ;have HY:=hid hY;have Hf:=hid hf;have awC:=hid hw0;clear hR hM hE FC ct aG az hJ hY hf ht hw0;generalize s.vars.length=n0 at*;generalize s.uses.length=n1 at*;generalize s.funcs.length=n2 at*;generalize s.cF.length=n3 at*;generalize ns.length=L at*;by_cases hv:v<0
 ·have hr:R=[]:=by rw [HR.out,if_pos hv]
  have Hr:=hid hr;clear HR hr;refine callsIn_wide.2 ?_;go_enter Tryz.func124,Tryz.ntmps124;go_wp2_with (go_at_call 125;((with_reducible refine(H5.out _ p6).mono ?_));rintro e w' ⟨rfl,hb⟩;obtain⟨G1,rfl⟩:=aC hb;clear hb);exact alr
 ·have hr:R=[(v,if yes then 126 else 3)]:=by rw [HR.out,if_neg hv]
  have Hr:=hid hr;clear HR hr;refine callsIn_of_wp Tryz.func124 rfl trivial ?_ rfl;simp only [Tryz.ntmps124,List.size_toArray,List.length_cons,List.length_nil,Nat.reduceAdd,Nat.reduceSub,Array.replicate_succ,Array.replicate_zero,List.push_toArray,List.append_toArray,List.nil_append,List.cons_append];cases yes with
  |true=>
   gi_wp2_with (refine⟨trivial, ?_⟩;(try refine⟨hdd _, ?_⟩);gi_at_call 125;refine(callsIn_wide.2 (H5.out _ p6)).mono ?_;rintro e w' ⟨rfl,hb⟩;obtain⟨G1,rfl⟩:=aC hb;clear hb);obtain⟨W2,hW2⟩:∃W2,W2=grow (W.alloc (.cells #[.int .i64 17,.string xt,.slice xp dx.length xc,.int .i64 eY] 56)) G1:=⟨_,rfl⟩;have hb2:Below W.heap.size W W2:=by rw [hW2];repeat (first|exact Below.refl _ _|refine bG ?_ _|refine bA ?_ _)
   rw [←hW2];have t0':=(hb2.cell (p:=⟨TB,0,none⟩) l0).trans t0;have t1':=(hb2.cell (p:=⟨YB,0,none⟩) l1).trans t1;have l0':=Nat.lt_of_lt_of_le l0 hb2.size;have l1':=Nat.lt_of_lt_of_le l1 hb2.size;have pV:=hid hb2;clear hW2 hb2 t0 t1 t2 x0 k0 k1 k2 k3;have od:pr.length<M:=by have:=HM.out;rw [Hr.out] at this;simp at this;omega
   have HY2:Hid (∀W3,Below W2.heap.size W2 W3→YieldAt Fence.wide (nn - 1) Tryz.prog l (qT (v,126)) W3 fun e W'=>(e=.returned (.bool true)∧J (pr++[(v,126)]) W'∧Kt w0.heap.size N ob W3 W')∨(e=.returned (.bool false)∧Jx (pr++[(v,126)]) W')):=
    hid fun W3 hb3=>HY.out (nn - 1) pr (v,126) W3 (HJ.out _ _ _ Iw.out (pV.out.trans (hb3.mono pV.out.size))) od
   rename_i K_ hK_ K2_ tV;refine Am.er ai ?_;refine Am.fG fun lW hz1 hz2 hz3 FH=>?_
   refine Am.eJ (Φ:=FA (.func (.yield l) #[] #[]) (.pointer (some ⟨tb,0,none⟩)) i v 126) (I:=Am.dO 6 37 [(7,7)] (fun w=>Below W2.heap.size W2 w) (fun r w=>(r=true∧J (pr++[(v,126)]) w∧Kt w0.heap.size N ob W w)∨(r=false∧Jx (pr++[(v,126)]) w))) ai ai vZ ?_ ?_ _ _ _ _ hz1 hz2 (Am.dO.first (hz3 _) ((Below.refl _ _).drew)) rfl rfl FH (fun j p d _ _ hj=>by rw [hz3] at hj;cases hj) (fun _ _=>rfl)
   ·exact als
   ·intro ca w1 f hI hall hd hs aT bp;obtain⟨r,hr,OX,kJ⟩:=hI.post (hall 6 aj);have h7:ca.tmps.getD 7 undef=.bool r:=kJ (7,7) ak (hall 7 aj);have bf:=Am.bC hd hs bp;simp only [List.foldl_cons,List.foldl_nil,h7] at bf;generalize ca.tmps.getD 31 undef=y31 at bf;generalize ca.tmps.getD 32 undef=y32 at bf;generalize ca.tmps.getD 33 undef=y33 at bf;generalize ca.tmps.getD 34 undef=y34 at bf;generalize ca.tmps.getD 35 undef=y35 at bf;generalize ca.tmps.getD 36 undef=y36 at bf;generalize ca.tmps.getD 37 undef=y37 at bf;exact ade
  |false=>
   gi_wp2_with (refine⟨trivial, ?_⟩;(try refine⟨hdd _, ?_⟩);gi_at_call 125;refine(callsIn_wide.2 (H5.out _ p6)).mono ?_;rintro e w' ⟨rfl,hb⟩;obtain⟨G1,rfl⟩:=aC hb;clear hb);obtain⟨W2,hW2⟩:∃W2,W2=grow (W.alloc (.cells #[.int .i64 17,.string xt,.slice xp dx.length xc,.int .i64 eY] 56)) G1:=⟨_,rfl⟩;have hb2:Below W.heap.size W W2:=by rw [hW2];repeat (first|exact Below.refl _ _|refine bG ?_ _|refine bA ?_ _)
   rw [←hW2];have t0':=(hb2.cell (p:=⟨TB,0,none⟩) l0).trans t0;have t1':=(hb2.cell (p:=⟨YB,0,none⟩) l1).trans t1;have l0':=Nat.lt_of_lt_of_le l0 hb2.size;have l1':=Nat.lt_of_lt_of_le l1 hb2.size;have pV:=hid hb2;clear hW2 hb2 t0 t1 t2 x0 k0 k1 k2 k3;have od:pr.length<M:=by have:=HM.out;rw [Hr.out] at this;simp at this;omega
   have HY2:Hid (∀W3,Below W2.heap.size W2 W3→YieldAt Fence.wide (nn - 1) Tryz.prog l (qT (v,3)) W3 fun e W'=>(e=.returned (.bool true)∧J (pr++[(v,3)]) W'∧Kt w0.heap.size N ob W3 W')∨(e=.returned (.bool false)∧Jx (pr++[(v,3)]) W')):=
    hid fun W3 hb3=>HY.out (nn - 1) pr (v,3) W3 (HJ.out _ _ _ Iw.out (pV.out.trans (hb3.mono pV.out.size))) od
   rename_i K_ hK_ K2_ tV;refine Am.er ai ?_;refine Am.fG fun lW hz1 hz2 hz3 FH=>?_
   refine Am.eJ (Φ:=FA (.func (.yield l) #[] #[]) (.pointer (some ⟨tb,0,none⟩)) i v 3) (I:=Am.dO 6 37 [(7,7)] (fun w=>Below W2.heap.size W2 w) (fun r w=>(r=true∧J (pr++[(v,3)]) w∧Kt w0.heap.size N ob W w)∨(r=false∧Jx (pr++[(v,3)]) w))) ai ai vZ ?_ ?_ _ _ _ _ hz1 hz2 (Am.dO.first (hz3 _) ((Below.refl _ _).drew)) rfl rfl FH (fun j p d _ _ hj=>by rw [hz3] at hj;cases hj) (fun _ _=>rfl)
   ·exact als
   ·intro ca w1 f hI hall hd hs aT bp;obtain⟨r,hr,OX,kJ⟩:=hI.post (hall 6 aj);have h7:ca.tmps.getD 7 undef=.bool r:=kJ (7,7) ak (hall 7 aj);have bf:=Am.bC hd hs bp;simp only [List.foldl_cons,List.foldl_nil,h7] at bf;obtain⟨yf,jL⟩:∃y:Nat→Value,∀t,ca.tmps.getD t undef=y t:=⟨_,fun _=>rfl⟩;simp only [jL] at bf;clear jL;exact ade
end Go.Proofs.YtjchnliaglecoaaGreatDoor

/- A part of the proof. Conditions: none. -/
set_option maxRecDepth 100000
set_option maxHeartbeats 8000000
namespace Go.Proofs.YtjchnliaglecoaaGreatDoor
open Go Go.RowKit Go.Nodes Go.Am Go.Shelf
attribute [local go_sem] Oper.semAt_some
theorem M0 (nn:Nat) (w0:World) (N ob M:Nat) (J Jx:List (Int × Int)→World→Prop) (p:Option Addr) (c:Nat) (ns:List Nd) (ha:ay w0 p ns) (xo:Small ns) (ht:Tree ns) (v0 v1 v2 v3:Value) (s:Fs) (hs:nc w0 v0 v1 v2 v3 s) (hf:Fit ns s) (tb mb TB YB DB l:Nat)
  (hJ:∀pr A B,J pr A→Below A.heap.size A B→J pr B) (hw0:w0.heap.size≤N) (AH:mb<N) (xq:mb≠ob)
  (hY:∀m pre x W,J pre W→pre.length<M→YieldAt Fence.wide m Tryz.prog l (qT x) W fun e W'=>(e=.returned (.bool true)∧J (pre++[x]) W'∧Kt w0.heap.size N ob W W')∨(e=.returned (.bool false)∧Jx (pre++[x]) W'))
  (k i:Nat) (hi:i<ns.length) (WN:Int) (az:aq ns (i:Int)=WN)
  (hno:(WN≠17∧WN≠28∧WN≠29∧WN≠30∧WN≠27)):pS nn w0 N ob M J Jx p c ns v0 v1 v2 v3 s tb mb TB YB DB l (k+1) i:=by
 intro yes pr W hE FC hM;have hdd:∀k:Nat,(Fence.wide.depth.isSome=true→1≤k):=fun k h=>by cases h
 have uKq:=aF hE.below ha;obtain⟨b,o,hp,bO,ct,aG,k0,k1,k2,k3⟩:=bh uKq hi;have cD:=aL ct;rw [az] at cD;obtain⟨R,hR⟩:∃R,R=aW ns s.vars s.uses (k+1) i yes:=⟨_,rfl⟩;rw [←hR] at hM ⊢;unfold aW at hR;obtain⟨m1,m2,m3,m4,m5⟩:=hno;rw [az,if_neg m1,if_neg m2,if_neg m3,if_neg m4,if_neg m5] at hR;have Hr:=hid hR;obtain⟨⟨p0,c0,rfl,h0⟩,⟨p1,c1,rfl,h1⟩,⟨p2,c2,rfl,h2⟩,⟨p3,c3,rfl,h3⟩,_⟩:=hs;clear h0 h1 h2 h3;have t0:=hE.tT.cell;have t1:=hE.tU.cell;have t2:=hE.o7.cell;have l0:=hE.tT.lt;have l1:=hE.tU.lt;have l2:=hE.o7.lt;have x0:=hE.tell.cell 0;have ltb:=hE.tell.lt;simp only [List.getElem?_toArray,List.getElem?_cons_zero,List.getElem?_cons_succ] at x0;have HE:=hid hE;have a0:(0:Int)≤(i:Int):=af;have a1:(i:Int)<(ns.length:Int):=af;generalize ns[i]=x at*;obtain⟨xk,xt,xp,xc,dx,eY⟩:=x;simp only at k0 k1 k2 k3 cD;subst cD;subst hp;have Iw:=hid FC;have HJ:=hid hJ;have HY:=hid hY;clear hR hM hE FC ct aG az hJ hY hf ht hw0 ha uKq xo AH xq;generalize s.vars.length=n0 at*;generalize s.uses.length=n1 at*;generalize s.funcs.length=n2 at*;generalize s.cF.length=n3 at*;generalize ns.length=L at*;have q1:(WN==17)=false:=by simpa using m1
 have q2:(WN==28)=false:=by simpa using m2
 have q3:(WN==29)=false:=by simpa using m3
 have q4:(WN==30)=false:=by simpa using m4
 have q5:(WN==27)=false:=by simpa using m5
 clear m1 m2 m3 m4 m5;exact RU
def MG (DF KS:Value) (A bk ok:Nat) (zz:Int) (yy:Bool):Nat→World→Value→Prop
 |0,_,v=>v=DF
 |1,_,v=>v=.pointer (some ⟨A,2,none⟩)
 |2,_,v=>v=KS
 |3,_,v=>v=.pointer (some ⟨bk,ok,none⟩)
 |4,_,v=>v=.int .i64 zz
 |5,_,v=>v=.bool yy
 |6,_,v=>v=.bool (!yy)
 |7,_,v=>True
 |_,_,v=>True
theorem G9 {DF KS:Value} {A bk ok:Nat} {zz:Int} {yy:Bool}:∀(j:Nat) (w w':World) (v:Value),MG DF KS A bk ok zz yy j w v→MG DF KS A bk ok zz yy j w' v:=by
 intro j w w' v h;unfold MG at*;split at h<;>exact h
theorem PU (nn:Nat) (w0:World) (N ob M:Nat) (J Jx:List (Int × Int)→World→Prop) (p:Option Addr) (c:Nat) (ns:List Nd) (ha:ay w0 p ns) (xo:Small ns) (ht:Tree ns) (v0 v1 v2 v3:Value) (s:Fs) (hs:nc w0 v0 v1 v2 v3 s) (hf:Fit ns s) (tb mb TB YB DB l:Nat)
  (hJ:∀pr A B,J pr A→Below A.heap.size A B→J pr B) (hw0:w0.heap.size≤N) (AH:mb<N) (xq:mb≠ob)
  (hY:∀m pre x W,J pre W→pre.length<M→YieldAt Fence.wide m Tryz.prog l (qT x) W fun e W'=>(e=.returned (.bool true)∧J (pre++[x]) W'∧Kt w0.heap.size N ob W W')∨(e=.returned (.bool false)∧Jx (pre++[x]) W'))
  (k i:Nat) (hi:i<ns.length) (ih:∀(n z:Nat),z<i→pS n w0 N ob M J Jx p c ns v0 v1 v2 v3 s tb mb TB YB DB l k z)
  (az:aq ns (i:Int)=28):pS nn w0 N ob M J Jx p c ns v0 v1 v2 v3 s tb mb TB YB DB l (k+1) i:=by
 intro yes pr W hE FC hM;have hdd:∀k:Nat,(Fence.wide.depth.isSome=true→1≤k):=fun k h=>by cases h
 have uKq:=aF hE.below ha;obtain⟨b,o,hp,bO,ct,aG,k0,k1,k2,k3⟩:=bh uKq hi;have cD:=aL ct;rw [az] at cD;have ke:dS ns (i:Int)=(ns[i]).text.toList:=ri;have bP:ax ns (i:Int)=(ns[i]).kids:=iA;have oK:=DX ht hi az;rw [bP] at oK;obtain⟨bk,ok,eO,mK,kz⟩:=bQ aG oK;have dA:=bH ht (n:=(i:Int)) af (ns[i].kids[0]) (by rw [bP];exact List.getElem_mem oK);obtain⟨z,hz⟩:∃z:Nat,ns[i].kids[0]=(z:Int):=⟨(ns[i].kids[0]).toNat,by omega⟩;have hg:ns[i].kids.getD 0 0=(z:Int):=by rw [aZ oK,hz]
 rw [hg,Nat.add_zero] at kz;rw [hz] at dA;have IHz:=fun n=>ih n z af
 obtain⟨R,hR⟩:∃R,R=aW ns s.vars s.uses (k+1) i yes:=⟨_,rfl⟩;rw [←hR] at hM ⊢;unfold aW n9 at hR;rw [if_neg cX,if_pos az,bP,hg,ke] at hR;obtain⟨⟨p0,c0,rfl,h0⟩,⟨p1,c1,rfl,h1⟩,⟨p2,c2,rfl,h2⟩,⟨p3,c3,rfl,h3⟩,_⟩:=hs;clear h0 h1 h2 h3;have t0:=hE.tT.cell;have t1:=hE.tU.cell;have t2:=hE.o7.cell;have l0:=hE.tT.lt;have l1:=hE.tU.lt;have l2:=hE.o7.lt;have x0:=hE.tell.cell 0;have ltb:=hE.tell.lt;simp only [List.getElem?_toArray,List.getElem?_cons_zero,List.getElem?_cons_succ] at x0;have HE:=hid hE;have a0:(0:Int)≤(i:Int):=af;have a1:(i:Int)<(ns.length:Int):=af;generalize ns[i]=x at*;obtain⟨xk,xt,xp,xc,dx,eY⟩:=x;simp only at k0 k1 k2 k3 cD oK eO hR;subst cD;subst hp;subst eO;have HR:=hid hR;have HM:=hid hM;have Iw:=hid FC;have HJ:=hid hJ;have AZ:=hid IHz;have BH:(0:Int)<(dx.length:Int):=af;have yX:¬dx.length=0:=af;clear hR hM hE FC ct aG az hJ hY hf ht hw0 ha uKq xo AH xq bP ke dA hz hg IHz ih;by_cases OH:xt.toList=XQ
 ·have xx:(xt.toList==[110,111,116])=true:=by rw [OH];rfl
  have hr:R=aW ns s.vars s.uses k z (!yes):=by rw [HR.out,if_pos OH]
  have je:Hid (∀(W1:World),Below (W.alloc (.cells #[.int .i64 28,.string xt,.slice (some ⟨bk,ok,none⟩) dx.length xc,.int .i64 eY] 56)).heap.size (W.alloc (.cells #[.int .i64 28,.string xt,.slice (some ⟨bk,ok,none⟩) dx.length xc,.int .i64 eY] 56)) W1→
    CallsIn Fence.wide (nn - 1) Tryz.prog 124 #[.int .i64 z,.bool (!yes),.pointer (some ⟨TB,0,none⟩),.pointer (some ⟨YB,0,none⟩),.pointer (some ⟨DB,0,none⟩)] W1 (nJ w0 N ob J Jx pr R W1)):=hid fun W1 hW1=>by
   have hb:=(au W (.cells #[.int .i64 28,.string xt,.slice (some ⟨bk,ok,none⟩) dx.length xc,.int .i64 eY] 56));have hb1:=hb.trans (hW1.mono hb.size);have h:=AZ.out (nn - 1) (!yes) pr W1 (HE.out.later hb1) (HJ.out _ _ _ Iw.out hb1) (by rw [←hr];exact HM.out);rw [←hr] at h;exact h
  clear hr OH HR HM AZ oK;generalize hqq:dx.length=q at*;clear hqq;generalize s.vars.length=n0 at*;generalize s.uses.length=n1 at*;generalize s.funcs.length=n2 at*;generalize s.cF.length=n3 at*;generalize ns.length=L at*;refine callsIn_of_wp Tryz.func124 rfl trivial ?_ rfl;simp only [Tryz.ntmps124,List.size_toArray,List.length_cons,List.length_nil,Nat.reduceAdd,Nat.reduceSub,Array.replicate_succ,Array.replicate_zero,List.push_toArray,List.append_toArray,List.nil_append,List.cons_append];gi_wp2;refine⟨trivial, ?_⟩;rename_i Ka_ ahu Kb_ JO;refine JO _ _ ?_;gi_wp2;obtain⟨W2,hW2⟩:∃W2,W2=W.alloc (.cells #[.int .i64 28,.string xt,.slice (some ⟨bk,ok,none⟩) q xc,.int .i64 eY] 56):=⟨_,rfl⟩;have hb2:Below W.heap.size W W2:=BW;have lA:W.heap.size<W2.heap.size:=by rw [hW2];simp
  have Mg:W2.cell? ⟨W.heap.size,2,none⟩=some (.slice (some ⟨bk,ok,none⟩) q xc):=by rw [hW2];simp [go_sem]
  rw [←hW2];rw [←hW2] at je;have Mf:=(hb2.cell (p:=⟨DB,0,none⟩) l2).trans t2;have Mh:=(hb2.cell (p:=⟨bk,ok,none⟩) mK).trans kz;have Jh:=Nat.lt_of_lt_of_le l2 hb2.size;have uv:=Nat.lt_of_lt_of_le mK hb2.size;have pV:=hid hb2;clear hW2 hb2 t0 t1 t2 x0 k0 k1 k2 k3 kz;rename_i K_ hK_ K2_ tV;refine Am.er ai ?_;refine Am.fG fun lW hz1 hz2 hz3 FH=>?_
  refine Am.eJ (Φ:=MG (.func (.func 124) #[] #[.pointer (some ⟨TB,0,none⟩),.pointer (some ⟨YB,0,none⟩),.pointer (some ⟨DB,0,none⟩)]) (.slice (some ⟨bk,ok,none⟩) q xc) W.heap.size bk ok z yes) (I:=Am.dO 7 54 [(8,7)] (fun w=>Below W2.heap.size W2 w) (fun r w=>(r=true∧J (pr++R) w∧Kt w0.heap.size N ob W w)∨(r=false∧∃q,Jx (pr++q) w))) ai ai G9 ?_ ?_ _ _ _ _ hz1 hz2 (Am.dO.first (hz3 _) ((Below.refl _ _).drew)) rfl rfl FH (fun j p d _ _ hj=>by rw [hz3] at hj;cases hj) (fun _ _=>rfl)
  ·have abL:=trivial;exact N9
  ·intro ca w1 f hI hall hd hs aT bp;obtain⟨r,hr,OX,kJ⟩:=hI.post (hall 7 aj);have h7:ca.tmps.getD 7 undef=.bool r:=kJ (8,7) ak (hall 8 aj);have bf:=Am.bC hd hs bp;simp only [List.foldl_cons,List.foldl_nil,h7] at bf;obtain⟨yf,jL⟩:∃y:Nat→Value,∀t,ca.tmps.getD t undef=y t:=⟨_,fun _=>rfl⟩;simp only [jL] at bf;clear jL;have rj:=hid OX;exact aei
 ·have xx:(xt.toList==[110,111,116])=false:=by
   cases h:(xt.toList==[110,111,116]) with
   |false=>rfl
   |true=>exact absurd (eq_of_beq h) OH
  have hr:R=[]:=by rw [HR.out,if_neg OH]
  have Hr:=hid hr;clear hr OH HR HM AZ;generalize s.vars.length=n0 at*;generalize s.uses.length=n1 at*;generalize s.funcs.length=n2 at*;generalize s.cF.length=n3 at*;generalize ns.length=L at*;exact RU
end Go.Proofs.YtjchnliaglecoaaGreatDoor
