/- A part of the proof. Conditions: none. -/
import Derived.Test.YtjchnliaglecoaaGreatDoorZz
import Derived.Test.YtjchnliaglecoaaGreatDoorPmX
import Derived.Test.YtjchnliaglecoaaGreatDoorAmW
import Derived.Test.YtjchnliaglecoaaGreatDoorPkX
set_option linter.unusedVariables false
set_option linter.unusedSimpArgs false
set_option maxRecDepth 100000
set_option maxHeartbeats 8000000
namespace Go.Proofs.YtjchnliaglecoaaGreatDoor
open Go Go.RowKit Go.Nodes Go.Am Go.Shelf
attribute [local go_sem] Oper.semAt_some
def Ho (DF KS:Value) (A bk ok:Nat) (zz:Int) (yy:Bool):Nat→World→Value→Prop
 |0,_,v=>v=DF
 |1,_,v=>v=.pointer (some ⟨A,2,none⟩)
 |2,_,v=>v=KS
 |3,_,v=>v=.pointer (some ⟨bk,ok,none⟩)
 |4,_,v=>v=.int .i64 zz
 |5,_,v=>v=.bool yy
 |_,_,_=>True
theorem wX {DF KS:Value} {A bk ok:Nat} {zz:Int} {yy:Bool}:∀(j:Nat) (w w':World) (v:Value),Ho DF KS A bk ok zz yy j w v→Ho DF KS A bk ok zz yy j w' v:=by
 intro j w w' v h;unfold Ho at*;exact yV
def GJ (DF KS:Value) (A bk ok:Nat) (zz:Int) (yy:Bool):Nat→World→Value→Prop
 |6,_,v=>v=.bool true
 |7,_,v=>v=.bool true
 |8,_,v=>v=DF
 |9,_,v=>v=.pointer (some ⟨A,2,none⟩)
 |10,_,v=>v=KS
 |11,_,v=>v=.pointer (some ⟨bk,ok+1,none⟩)
 |12,_,v=>v=.int .i64 zz
 |13,_,v=>v=.bool yy
 |_,_,_=>True
theorem wP {DF KS:Value} {A bk ok:Nat} {zz:Int} {yy:Bool}:∀(j:Nat) (w w':World) (v:Value),GJ DF KS A bk ok zz yy j w v→GJ DF KS A bk ok zz yy j w' v:=by
 intro j w w' v h;unfold GJ at*;exact yV
def L5:Nat→World→Value→Prop
 |6,_,v=>v=.bool false
 |7,_,v=>v=.bool false
 |15,_,v=>v=.bool false
 |16,_,v=>v=.bool false
 |_,_,_=>True
theorem Gu:∀(j:Nat) (w w':World) (v:Value),L5 j w v→L5 j w' v:=by
 intro j w w' v h;unfold L5 at*;exact yV
theorem PV (nn:Nat) (w0:World) (N ob M:Nat) (J Jx:List (Int × Int)→World→Prop) (p:Option Addr) (c:Nat) (ns:List Nd) (ha:ay w0 p ns) (xo:Small ns) (ht:Tree ns) (v0 v1 v2 v3:Value) (s:Fs) (hs:nc w0 v0 v1 v2 v3 s) (hf:Fit ns s) (tb mb TB YB DB l:Nat)
  (hJ:∀pr A B,J pr A→Below A.heap.size A B→J pr B) (hw0:w0.heap.size≤N) (AH:mb<N) (xq:mb≠ob)
  (hY:∀m pre x W,J pre W→pre.length<M→YieldAt Fence.wide m Tryz.prog l (qT x) W fun e W'=>(e=.returned (.bool true)∧J (pre++[x]) W'∧Kt w0.heap.size N ob W W')∨(e=.returned (.bool false)∧Jx (pre++[x]) W'))
  (k i:Nat) (hi:i<ns.length) (ih:∀(n z:Nat),z<i→pS n w0 N ob M J Jx p c ns v0 v1 v2 v3 s tb mb TB YB DB l k z)
  (az:aq ns (i:Int)=29):pS nn w0 N ob M J Jx p c ns v0 v1 v2 v3 s tb mb TB YB DB l (k+1) i:=by
 intro yes pr W hE FC hM;have hdd:∀k:Nat,(Fence.wide.depth.isSome=true→1≤k):=fun k h=>by cases h
 have uKq:=aF hE.below ha;obtain⟨b,o,hp,bO,ct,aG,k0,k1,k2,k3⟩:=bh uKq hi;have cD:=aL ct;rw [az] at cD;have bP:ax ns (i:Int)=(ns[i]).kids:=iA;have oK:=jQ ht hi (by simp [az]);rw [bP] at oK;have o8:0<ns[i].kids.length:=af;have mJ:1<ns[i].kids.length:=af;obtain⟨bk,ok,eO,mK,kz⟩:=bQ aG o8;have dA:=bH ht (n:=(i:Int)) af (ns[i].kids[0]) (by rw [bP];exact List.getElem_mem o8);have ep:=bH ht (n:=(i:Int)) af (ns[i].kids[1]) (by rw [bP];exact List.getElem_mem mJ);obtain⟨z,hz⟩:∃z:Nat,ns[i].kids[0]=(z:Int):=⟨(ns[i].kids[0]).toNat,by omega⟩;obtain⟨z1,hz1⟩:∃z:Nat,ns[i].kids[1]=(z:Int):=⟨(ns[i].kids[1]).toNat,by omega⟩;have hg:ns[i].kids.getD 0 0=(z:Int):=by rw [aZ o8,hz]
 have hg1:ns[i].kids.getD 1 0=(z1:Int):=by rw [aZ mJ,hz1]
 rw [hg,Nat.add_zero] at kz;rw [hz] at dA;rw [hz1] at ep;have ajk:Hid (∀W',Below w0.heap.size w0 W'→bk<W'.heap.size∧W'.cell? ⟨bk,ok,none⟩=some (.int .i64 z)∧W'.cell? ⟨bk,ok+1,none⟩=some (.int .i64 z1)):=hid fun W' hW=>by
  exact TW
 have IHz:=fun n=>ih n z af
 have WU:=fun n=>ih n z1 af
 obtain⟨R,hR⟩:∃R,R=aW ns s.vars s.uses (k+1) i yes:=⟨_,rfl⟩;rw [←hR] at hM ⊢;unfold aW n9 uU at hR;rw [if_neg cX,if_neg cX,if_pos az,bP,hg,hg1] at hR;obtain⟨⟨p0,c0,rfl,h0⟩,⟨p1,c1,rfl,h1⟩,⟨p2,c2,rfl,h2⟩,⟨p3,c3,rfl,h3⟩,_⟩:=hs;clear h0 h1 h2 h3;have t0:=hE.tT.cell;have t1:=hE.tU.cell;have t2:=hE.o7.cell;have l0:=hE.tT.lt;have l1:=hE.tU.lt;have l2:=hE.o7.lt;have x0:=hE.tell.cell 0;have ltb:=hE.tell.lt;simp only [List.getElem?_toArray,List.getElem?_cons_zero,List.getElem?_cons_succ] at x0;have HE:=hid hE;have a0:(0:Int)≤(i:Int):=af;have a1:(i:Int)<(ns.length:Int):=af;generalize ns[i]=x at*;obtain⟨xk,xt,xp,xc,dx,eY⟩:=x;simp only at k0 k1 k2 k3 cD o8 mJ eO hR;subst cD;subst hp;subst eO;have BV:=hid hR;have HM:=hid hM;have Iw:=hid FC;have HJ:=hid hJ;have AZ:=hid IHz;have Oc:=hid WU;have HmN:=hid AH;have HmO:=hid xq;have BH:(0:Int)<(dx.length:Int):=af;have yX:¬dx.length=0:=af;have hq3:(1:Int)<(dx.length:Int):=af;have hq4:1<dx.length:=af;clear hR hM hE FC ct aG az hJ hY hf ht hw0 ha uKq xo AH xq bP dA ep hz hz1 hg hg1 IHz WU ih oK;cases yes with
 |true=>
  obtain⟨Md,hl0⟩:∃l,l=aW ns s.vars s.uses k z true:=⟨_,rfl⟩;obtain⟨l1r,wN⟩:∃l,l=aW ns s.vars s.uses k z1 true:=⟨_,rfl⟩;have HR:Hid (R=Md++l1r):=hid (by rw [BV.out,hl0,wN];rfl);have hlen:pr.length+(Md.length+l1r.length)≤M:=by have:=HM.out;rw [HR.out,List.length_append] at this;exact this
  have je:Hid (∀(W1:World),Below (W.alloc (.cells #[.int .i64 29,.string xt,.slice (some ⟨bk,ok,none⟩) dx.length xc,.int .i64 eY] 56)).heap.size (W.alloc (.cells #[.int .i64 29,.string xt,.slice (some ⟨bk,ok,none⟩) dx.length xc,.int .i64 eY] 56)) W1→
    CallsIn Fence.wide (nn - 1) Tryz.prog 124 #[.int .i64 z,.bool true,.pointer (some ⟨TB,0,none⟩),.pointer (some ⟨YB,0,none⟩),.pointer (some ⟨DB,0,none⟩)] W1 (nJ w0 N ob J Jx pr Md W1)):=hid fun W1 hW1=>by
   have hb:=(au W (.cells #[.int .i64 29,.string xt,.slice (some ⟨bk,ok,none⟩) dx.length xc,.int .i64 eY] 56));have hb1:=hb.trans (hW1.mono hb.size);have h:=AZ.out (nn - 1) true pr W1 (HE.out.later hb1) (HJ.out _ _ _ Iw.out hb1) (by rw [←hl0];omega);rw [←hl0] at h;exact h
  have aiQ:Hid (∀(W1:World),AW w0 N (some ⟨b,o,none⟩) c ns.length (.slice p0 s.vars.length c0) (.slice p1 s.uses.length c1) (.slice p2 s.funcs.length c2) (.slice p3 s.cF.length c3) tb mb TB YB DB l W1→J (pr++Md) W1→
    CallsIn Fence.wide (nn - 1) Tryz.prog 124 #[.int .i64 z1,.bool true,.pointer (some ⟨TB,0,none⟩),.pointer (some ⟨YB,0,none⟩),.pointer (some ⟨DB,0,none⟩)] W1 (nJ w0 N ob J Jx (pr++Md) l1r W1)):=hid fun W1 hE1 hj1=>by
   have h:=Oc.out (nn - 1) true (pr++Md) W1 hE1 hj1 (by rw [←wN,List.length_append];omega);rw [←wN] at h;exact h
  clear hl0 wN hlen HM BV AZ Oc o8 mJ;generalize hqq:dx.length=q at*;clear hqq;generalize s.vars.length=n0 at*;generalize s.uses.length=n1 at*;generalize s.funcs.length=n2 at*;generalize s.cF.length=n3 at*;generalize ns.length=L at*;refine callsIn_of_wp Tryz.func124 rfl trivial ?_ rfl;simp only [Tryz.ntmps124,List.size_toArray,List.length_cons,List.length_nil,Nat.reduceAdd,Nat.reduceSub,Array.replicate_succ,Array.replicate_zero,List.push_toArray,List.append_toArray,List.nil_append,List.cons_append];gi_wp2;refine⟨trivial, ?_⟩;rename_i Ka_ ahu Kb_ JO;refine JO _ _ ?_;gi_wp2;obtain⟨W2,hW2⟩:∃W2,W2=W.alloc (.cells #[.int .i64 29,.string xt,.slice (some ⟨bk,ok,none⟩) q xc,.int .i64 eY] 56):=⟨_,rfl⟩;have hb2:Below W.heap.size W W2:=BW;have lA:W.heap.size<W2.heap.size:=by rw [hW2];simp
  have nh:W2.heap[W.heap.size]?=some (.cells #[.int .i64 29,.string xt,.slice (some ⟨bk,ok,none⟩) q xc,.int .i64 eY] 56 (0,0)):=LJ;have Mg:W2.cell? ⟨W.heap.size,2,none⟩=some (.slice (some ⟨bk,ok,none⟩) q xc):=by simp [World.cell?,nh]
  rw [←hW2];rw [←hW2] at je;have Mf:=(hb2.cell (p:=⟨DB,0,none⟩) l2).trans t2;have Mh:=(hb2.cell (p:=⟨bk,ok,none⟩) mK).trans kz;have Jh:=Nat.lt_of_lt_of_le l2 hb2.size;have uv:=Nat.lt_of_lt_of_le mK hb2.size;have pV:=hid hb2;clear hW2 hb2 t0 t1 t2 x0 k0 k1 k2 k3 kz;rename_i K_ hK_ K2_ tV;refine Am.er ai ?_;refine Am.fG fun lW hz1 hz2 hz3 FH=>?_
  refine Am.eJ (Φ:=Ho (.func (.func 124) #[] #[.pointer (some ⟨TB,0,none⟩),.pointer (some ⟨YB,0,none⟩),.pointer (some ⟨DB,0,none⟩)]) (.slice (some ⟨bk,ok,none⟩) q xc) W.heap.size bk ok z true) (I:=Am.WV 6 (fun w=>Below W2.heap.size W2 w)) ai ai wX ?_ ?_ _ _ _ _ hz1 hz2 ⟨hz3 _,(Below.refl _ _).drew⟩ rfl rfl FH (fun j p d _ _ hj=>by rw [hz3] at hj;cases hj) (fun _ _=>rfl)
  ·have abM:=trivial;exact N9
  ·exact UY
 |false=>
  exact aeE
theorem PW (nn:Nat) (w0:World) (N ob M:Nat) (J Jx:List (Int × Int)→World→Prop) (p:Option Addr) (c:Nat) (ns:List Nd) (ha:ay w0 p ns) (xo:Small ns) (ht:Tree ns) (v0 v1 v2 v3:Value) (s:Fs) (hs:nc w0 v0 v1 v2 v3 s) (hf:Fit ns s) (tb mb TB YB DB l:Nat)
  (hJ:∀pr A B,J pr A→Below A.heap.size A B→J pr B) (hw0:w0.heap.size≤N) (AH:mb<N) (xq:mb≠ob)
  (hY:∀m pre x W,J pre W→pre.length<M→YieldAt Fence.wide m Tryz.prog l (qT x) W fun e W'=>(e=.returned (.bool true)∧J (pre++[x]) W'∧Kt w0.heap.size N ob W W')∨(e=.returned (.bool false)∧Jx (pre++[x]) W'))
  (k i:Nat) (hi:i<ns.length) (ih:∀(n z:Nat),z<i→pS n w0 N ob M J Jx p c ns v0 v1 v2 v3 s tb mb TB YB DB l k z)
  (az:aq ns (i:Int)=30):pS nn w0 N ob M J Jx p c ns v0 v1 v2 v3 s tb mb TB YB DB l (k+1) i:=by
 intro yes pr W hE FC hM;have hdd:∀k:Nat,(Fence.wide.depth.isSome=true→1≤k):=fun k h=>by cases h
 have uKq:=aF hE.below ha;obtain⟨b,o,hp,bO,ct,aG,k0,k1,k2,k3⟩:=bh uKq hi;have cD:=aL ct;rw [az] at cD;have bP:ax ns (i:Int)=(ns[i]).kids:=iA;have oK:=jQ ht hi (by simp [az]);rw [bP] at oK;have o8:0<ns[i].kids.length:=af;have mJ:1<ns[i].kids.length:=af;obtain⟨bk,ok,eO,mK,kz⟩:=bQ aG o8;have dA:=bH ht (n:=(i:Int)) af (ns[i].kids[0]) (by rw [bP];exact List.getElem_mem o8);have ep:=bH ht (n:=(i:Int)) af (ns[i].kids[1]) (by rw [bP];exact List.getElem_mem mJ);obtain⟨z,hz⟩:∃z:Nat,ns[i].kids[0]=(z:Int):=⟨(ns[i].kids[0]).toNat,by omega⟩;obtain⟨z1,hz1⟩:∃z:Nat,ns[i].kids[1]=(z:Int):=⟨(ns[i].kids[1]).toNat,by omega⟩;have hg:ns[i].kids.getD 0 0=(z:Int):=by rw [aZ o8,hz]
 have hg1:ns[i].kids.getD 1 0=(z1:Int):=by rw [aZ mJ,hz1]
 rw [hg,Nat.add_zero] at kz;rw [hz] at dA;rw [hz1] at ep;have ajk:Hid (∀W',Below w0.heap.size w0 W'→bk<W'.heap.size∧W'.cell? ⟨bk,ok,none⟩=some (.int .i64 z)∧W'.cell? ⟨bk,ok+1,none⟩=some (.int .i64 z1)):=hid fun W' hW=>by
  exact TW
 have IHz:=fun n=>ih n z af
 have WU:=fun n=>ih n z1 af
 obtain⟨R,hR⟩:∃R,R=aW ns s.vars s.uses (k+1) i yes:=⟨_,rfl⟩;rw [←hR] at hM ⊢;unfold aW n9 uU at hR;rw [if_neg cX,if_neg cX,if_neg cX,if_pos az,bP,hg,hg1] at hR;obtain⟨⟨p0,c0,rfl,h0⟩,⟨p1,c1,rfl,h1⟩,⟨p2,c2,rfl,h2⟩,⟨p3,c3,rfl,h3⟩,_⟩:=hs;clear h0 h1 h2 h3;have t0:=hE.tT.cell;have t1:=hE.tU.cell;have t2:=hE.o7.cell;have l0:=hE.tT.lt;have l1:=hE.tU.lt;have l2:=hE.o7.lt;have x0:=hE.tell.cell 0;have ltb:=hE.tell.lt;simp only [List.getElem?_toArray,List.getElem?_cons_zero,List.getElem?_cons_succ] at x0;have HE:=hid hE;have a0:(0:Int)≤(i:Int):=af;have a1:(i:Int)<(ns.length:Int):=af;generalize ns[i]=x at*;obtain⟨xk,xt,xp,xc,dx,eY⟩:=x;simp only at k0 k1 k2 k3 cD o8 mJ eO hR;subst cD;subst hp;subst eO;have BV:=hid hR;have HM:=hid hM;have Iw:=hid FC;have HJ:=hid hJ;have AZ:=hid IHz;have Oc:=hid WU;have HmN:=hid AH;have HmO:=hid xq;have BH:(0:Int)<(dx.length:Int):=af;have yX:¬dx.length=0:=af;have hq3:(1:Int)<(dx.length:Int):=af;have hq4:1<dx.length:=af;clear hR hM hE FC ct aG az hJ hY hf ht hw0 ha uKq xo AH xq bP dA ep hz hz1 hg hg1 IHz WU ih oK;cases yes with
 |false=>
  obtain⟨Md,hl0⟩:∃l,l=aW ns s.vars s.uses k z false:=⟨_,rfl⟩;obtain⟨l1r,wN⟩:∃l,l=aW ns s.vars s.uses k z1 false:=⟨_,rfl⟩;have HR:Hid (R=Md++l1r):=hid (by rw [BV.out,hl0,wN];rfl);have hlen:pr.length+(Md.length+l1r.length)≤M:=by have:=HM.out;rw [HR.out,List.length_append] at this;exact this
  have je:Hid (∀(W1:World),Below (W.alloc (.cells #[.int .i64 30,.string xt,.slice (some ⟨bk,ok,none⟩) dx.length xc,.int .i64 eY] 56)).heap.size (W.alloc (.cells #[.int .i64 30,.string xt,.slice (some ⟨bk,ok,none⟩) dx.length xc,.int .i64 eY] 56)) W1→
    CallsIn Fence.wide (nn - 1) Tryz.prog 124 #[.int .i64 z,.bool false,.pointer (some ⟨TB,0,none⟩),.pointer (some ⟨YB,0,none⟩),.pointer (some ⟨DB,0,none⟩)] W1 (nJ w0 N ob J Jx pr Md W1)):=hid fun W1 hW1=>by
   have hb:=(au W (.cells #[.int .i64 30,.string xt,.slice (some ⟨bk,ok,none⟩) dx.length xc,.int .i64 eY] 56));have hb1:=hb.trans (hW1.mono hb.size);have h:=AZ.out (nn - 1) false pr W1 (HE.out.later hb1) (HJ.out _ _ _ Iw.out hb1) (by rw [←hl0];omega);rw [←hl0] at h;exact h
  have aiQ:Hid (∀(W1:World),AW w0 N (some ⟨b,o,none⟩) c ns.length (.slice p0 s.vars.length c0) (.slice p1 s.uses.length c1) (.slice p2 s.funcs.length c2) (.slice p3 s.cF.length c3) tb mb TB YB DB l W1→J (pr++Md) W1→
    CallsIn Fence.wide (nn - 1) Tryz.prog 124 #[.int .i64 z1,.bool false,.pointer (some ⟨TB,0,none⟩),.pointer (some ⟨YB,0,none⟩),.pointer (some ⟨DB,0,none⟩)] W1 (nJ w0 N ob J Jx (pr++Md) l1r W1)):=hid fun W1 hE1 hj1=>by
   have h:=Oc.out (nn - 1) false (pr++Md) W1 hE1 hj1 (by rw [←wN,List.length_append];omega);rw [←wN] at h;exact h
  clear hl0 wN hlen HM BV AZ Oc o8 mJ;generalize hqq:dx.length=q at*;clear hqq;generalize s.vars.length=n0 at*;generalize s.uses.length=n1 at*;generalize s.funcs.length=n2 at*;generalize s.cF.length=n3 at*;generalize ns.length=L at*;refine callsIn_of_wp Tryz.func124 rfl trivial ?_ rfl;simp only [Tryz.ntmps124,List.size_toArray,List.length_cons,List.length_nil,Nat.reduceAdd,Nat.reduceSub,Array.replicate_succ,Array.replicate_zero,List.push_toArray,List.append_toArray,List.nil_append,List.cons_append];gi_wp2;refine⟨trivial, ?_⟩;rename_i Ka_ ahu Kb_ JO;refine JO _ _ ?_;gi_wp2;obtain⟨W2,hW2⟩:∃W2,W2=W.alloc (.cells #[.int .i64 30,.string xt,.slice (some ⟨bk,ok,none⟩) q xc,.int .i64 eY] 56):=⟨_,rfl⟩;have hb2:Below W.heap.size W W2:=BW;have lA:W.heap.size<W2.heap.size:=by rw [hW2];simp
  have nh:W2.heap[W.heap.size]?=some (.cells #[.int .i64 30,.string xt,.slice (some ⟨bk,ok,none⟩) q xc,.int .i64 eY] 56 (0,0)):=LJ;have Mg:W2.cell? ⟨W.heap.size,2,none⟩=some (.slice (some ⟨bk,ok,none⟩) q xc):=by simp [World.cell?,nh]
  rw [←hW2];rw [←hW2] at je;have Mf:=(hb2.cell (p:=⟨DB,0,none⟩) l2).trans t2;have Mh:=(hb2.cell (p:=⟨bk,ok,none⟩) mK).trans kz;have Jh:=Nat.lt_of_lt_of_le l2 hb2.size;have uv:=Nat.lt_of_lt_of_le mK hb2.size;have pV:=hid hb2;clear hW2 hb2 t0 t1 t2 x0 k0 k1 k2 k3 kz;rename_i K_ hK_ K2_ tV;refine Am.er ai ?_;refine Am.fG fun lW hz1 hz2 hz3 FH=>?_
  refine Am.eJ (Φ:=Ho (.func (.func 124) #[] #[.pointer (some ⟨TB,0,none⟩),.pointer (some ⟨YB,0,none⟩),.pointer (some ⟨DB,0,none⟩)]) (.slice (some ⟨bk,ok,none⟩) q xc) W.heap.size bk ok z false) (I:=Am.WV 6 (fun w=>Below W2.heap.size W2 w)) ai ai wX ?_ ?_ _ _ _ _ hz1 hz2 ⟨hz3 _,(Below.refl _ _).drew⟩ rfl rfl FH (fun j p d _ _ hj=>by rw [hz3] at hj;cases hj) (fun _ _=>rfl)
  ·have abN:=trivial;exact N9
  ·exact UY
 |true=>
  exact aeE
end Go.Proofs.YtjchnliaglecoaaGreatDoor

/- A part of the proof. Conditions: none. -/
set_option maxRecDepth 100000
set_option maxHeartbeats 8000000
namespace Go.Proofs.YtjchnliaglecoaaGreatDoor
open Go Go.RowKit Go.Nodes Go.Am
theorem GD {P:Program} {o:Oper} {ca:Act} {w w':World} {K:Act→World→Prop} {Q:Exit→Act→World→Prop} (h:(execOp ca.eval o).run P w=.ok .skip w') (hk:K (ca.put o.dst undef) w'):o.wp P ca w K Q:=by
 unfold Oper.wp;rw [h];exact hk
structure yY (A:Nat) (nd:Array Value) (W0:World) (NB al st:Nat) (ia:Bool) (e1 e2:Int) (f:Nat→Bool) (ca:Act) (w:World):Prop where
 below:Below W0.heap.size W0 w
 node:w.heap[A]?=some (.cells nd 56 (0,0))
 ge:NB≤w.heap.size
 box:f al=true→∃(U:Nat) (a b:Int),ca.tmps.getD 10 undef=.pointer (some ⟨U,0,none⟩)∧w.heap[U]?=some (.cells #[.int .i64 a,.int .i64 b] 58 (0,0))∧NB≤U∧(f st=true→ia=true→a=e1∧b=e2)
section
variable {A:Nat} {nd:Array Value} {W0:World} {NB al st:Nat} {ia:Bool} {e1 e2:Int} {f:Nat→Bool} {ca:Act} {w w':World}
theorem yY.keep {i:Nat} {d:Option Tmp} {v:Value} (h:yY A nd W0 NB al st ia e1 e2 f ca w) (hi:i≠al) (xe:i≠st) (hd:d≠some 10) (hb:Below w.heap.size w w'):yY A nd W0 NB al st ia e1 e2 (fun j=>if j=i then true else f j) (ca.put d v) w':=by
 refine⟨h.below.trans (hb.mono h.below.size),(hb.block A (Array.getElem?_eq_some_iff.1 h.node).1).trans h.node,Nat.le_trans h.ge hb.size,fun hf=>?_⟩;simp only [if_neg hi.symm] at hf;obtain⟨U,a,b,h1,h2,h3,h4⟩:=h.box hf;refine⟨U,a,b, ?_,(hb.block U (Array.getElem?_eq_some_iff.1 h2).1).trans h2,h3,fun hs=>?_⟩
 ·rw [←h1];cases d with
  |none=>rfl
  |some e=>
   have hne:¬e=10:=fun h=>hd (by rw [h])
   simp [Act.put,Array.getElem?_setIfInBounds,hne]
 ·simp only [if_neg xe.symm] at hs;exact h4 hs
theorem yY.alloc (h:yY A nd W0 NB al st ia e1 e2 f ca w) (hs:al≠st) (hst:f st=false) (h10:10<ca.tmps.size):yY A nd W0 NB al st ia e1 e2 (fun j=>if j=al then true else f j) (ca.put (some 10) (.pointer (some ⟨w.heap.size,0,none⟩))) (w.alloc (.cells #[.int .i64 0,.int .i64 0] 58)):=by
 have hb:=au w (.cells #[.int .i64 0,.int .i64 0] 58);refine⟨h.below.trans (hb.mono h.below.size),(hb.block A (Array.getElem?_eq_some_iff.1 h.node).1).trans h.node,Nat.le_trans h.ge hb.size,fun _=>⟨w.heap.size,0,0,by simp [Act.put,h10],heap_alloc_new _ _,h.ge,fun hs2=>?_⟩⟩;simp only [if_neg hs.symm,hst] at hs2;cases hs2
theorem yY.store (h:yY A nd W0 NB al st ia e1 e2 f ca w) (hs:al≠st) (hal:f al=true) (hA:A<NB) (hW:W0.heap.size≤NB) {U:Nat} {v k:Int} (hU:ca.tmps.getD 10 undef=.pointer (some ⟨U,0,none⟩)) (jM:ia=true→v=e1∧k=e2) {u:Value}:
  yY A nd W0 NB al st ia e1 e2 (fun j=>if j=st then true else f j) (ca.put none u) ((w.setCell ⟨U,0,none⟩ (.int .i64 v)).setCell ⟨U,1,none⟩ (.int .i64 k)):=by
 obtain⟨U',a,b,h1,h2,h3,h4⟩:=h.box hal;rw [hU] at h1;cases h1;have g1:(w.setCell ⟨U,0,none⟩ (.int .i64 v)).heap[U]?=some (.cells #[.int .i64 v,.int .i64 b] 58 (0,0)):=heap_setCell_same w U 0 _ 58 _ h2;have g2:((w.setCell ⟨U,0,none⟩ (.int .i64 v)).setCell ⟨U,1,none⟩ (.int .i64 k)).heap[U]?=some (.cells #[.int .i64 v,.int .i64 k] 58 (0,0)):=heap_setCell_same _ U 1 _ 58 _ g1;refine⟨(h.below.setCell bt _).setCell bt _, ?_,by simpa using h.ge,fun _=>⟨U,v,k,hU,g2,h3,fun _=>jM⟩⟩;rw [Below.heap_setCell _ _ _ _ bt,Below.heap_setCell _ _ _ _ bt];exact h.node
end
structure wB (A:Nat) (nd:Array Value) (W0:World) (U st:Nat) (ia:Bool) (e1 e2:Int) (f:Nat→Bool) (ca:Act) (w:World):Prop where
 below:Below W0.heap.size W0 w
 node:w.heap[A]?=some (.cells nd 56 (0,0))
 box:∃(a b:Int),w.heap[U]?=some (.cells #[.int .i64 a,.int .i64 b] 58 (0,0))∧(f st=true→ia=true→a=e1∧b=e2)
section
variable {A:Nat} {nd:Array Value} {W0:World} {U st:Nat} {ia:Bool} {e1 e2:Int} {f:Nat→Bool} {ca:Act} {w w':World}
theorem wB.keep {i:Nat} {kA:Act} (h:wB A nd W0 U st ia e1 e2 f ca w) (xe:i≠st) (hb:Below w.heap.size w w'):wB A nd W0 U st ia e1 e2 (fun j=>if j=i then true else f j) kA w':=by
 obtain⟨a,b,h2,h4⟩:=h.box;refine⟨h.below.trans (hb.mono h.below.size),(hb.block A (Array.getElem?_eq_some_iff.1 h.node).1).trans h.node,a,b,(hb.block U (Array.getElem?_eq_some_iff.1 h2).1).trans h2,fun hs=>?_⟩;simp only [if_neg xe.symm] at hs;exact h4 hs
theorem wB.store {kA:Act} (h:wB A nd W0 U st ia e1 e2 f ca w) (hA:A≠U) (hW:W0.heap.size≤U) {v k:Int} (jM:ia=true→v=e1∧k=e2):
  wB A nd W0 U st ia e1 e2 (fun j=>if j=st then true else f j) kA ((w.setCell ⟨U,0,none⟩ (.int .i64 v)).setCell ⟨U,1,none⟩ (.int .i64 k)):=by
 obtain⟨a,b,h2,h4⟩:=h.box;have g1:(w.setCell ⟨U,0,none⟩ (.int .i64 v)).heap[U]?=some (.cells #[.int .i64 v,.int .i64 b] 58 (0,0)):=heap_setCell_same w U 0 _ 58 _ h2;have g2:((w.setCell ⟨U,0,none⟩ (.int .i64 v)).setCell ⟨U,1,none⟩ (.int .i64 k)).heap[U]?=some (.cells #[.int .i64 v,.int .i64 k] 58 (0,0)):=heap_setCell_same _ U 1 _ 58 _ g1;refine⟨(h.below.setCell hW _).setCell hW _, ?_,v,k,g2,fun _=>jM⟩;rw [Below.heap_setCell _ _ _ _ (by simpa using hA),Below.heap_setCell _ _ _ _ (by simpa using hA)];exact h.node
end
end Go.Proofs.YtjchnliaglecoaaGreatDoor

/- A part of the proof. Conditions: none. -/
set_option maxRecDepth 100000
set_option maxHeartbeats 8000000
namespace Go.Proofs.YtjchnliaglecoaaGreatDoor
open Go Go.RowKit Go.Nodes Go.Am Go.Shelf
attribute [local go_sem] Oper.semAt_some
def FY (TP KS:Value) (A bk ok:Nat) (za zb:Int) (ia:Bool) (e1 e2:Int) (o1 o2:Nat):Nat→World→Value→Prop
 |0,_,v=>v=TP
 |1,_,v=>v=.pointer (some ⟨A,2,none⟩)
 |2,_,v=>v=KS
 |3,_,v=>v=.pointer (some ⟨bk,o1,none⟩)
 |4,_,v=>v=.int .i64 za
 |5,_,v=>v=.pointer (some ⟨A,2,none⟩)
 |6,_,v=>v=KS
 |7,_,v=>v=.pointer (some ⟨bk,o2,none⟩)
 |8,_,v=>v=.int .i64 zb
 |9,_,v=>∃vv kk:Int,v=.tuple #[.agg #[.int .i64 vv,.int .i64 kk],.bool ia]∧(ia=true→vv=e1∧kk=e2)
 |10,_,v=>∃vv kk:Int,v=.tuple #[.agg #[.int .i64 vv,.int .i64 kk],.bool ia]∧(ia=true→vv=e1∧kk=e2)
 |11,_,v=>∃vv kk:Int,v=.agg #[.int .i64 vv,.int .i64 kk]∧(ia=true→vv=e1∧kk=e2)
 |12,_,v=>v=.bool ia
 |15,_,v=>v=.bool ia
 |_,_,_=>True
theorem wm {TP KS:Value} {A bk ok:Nat} {za zb:Int} {ia:Bool} {e1 e2:Int} {o1 o2:Nat}:∀(j:Nat) (w w':World) (v:Value),FY TP KS A bk ok za zb ia e1 e2 o1 o2 j w v→FY TP KS A bk ok za zb ia e1 e2 o1 o2 j w' v:=by
 intro j w w' v h;unfold FY at*;exact yV
def FZ (TP KS:Value) (A bk ok:Nat) (za zb:Int) (ia:Bool) (e1 e2:Int) (o1 o2:Nat):Nat→World→Value→Prop
 |0,_,v=>v=TP
 |1,_,v=>v=.pointer (some ⟨A,2,none⟩)
 |2,_,v=>v=KS
 |3,_,v=>v=.pointer (some ⟨bk,o1,none⟩)
 |4,_,v=>v=.int .i64 za
 |5,_,v=>v=.pointer (some ⟨A,2,none⟩)
 |6,_,v=>v=KS
 |7,_,v=>v=.pointer (some ⟨bk,o2,none⟩)
 |8,_,v=>v=.int .i64 zb
 |9,_,v=>∃vv kk:Int,v=.tuple #[.agg #[.int .i64 vv,.int .i64 kk],.bool ia]∧(ia=true→vv=e1∧kk=e2)
 |10,_,v=>∃vv kk:Int,v=.tuple #[.agg #[.int .i64 vv,.int .i64 kk],.bool ia]∧(ia=true→vv=e1∧kk=e2)
 |11,_,v=>∃vv kk:Int,v=.agg #[.int .i64 vv,.int .i64 kk]∧(ia=true→vv=e1∧kk=e2)
 |12,_,v=>v=.bool ia
 |14,_,v=>v=.bool ia
 |_,_,_=>True
theorem wo {TP KS:Value} {A bk ok:Nat} {za zb:Int} {ia:Bool} {e1 e2:Int} {o1 o2:Nat}:∀(j:Nat) (w w':World) (v:Value),FZ TP KS A bk ok za zb ia e1 e2 o1 o2 j w v→FZ TP KS A bk ok za zb ia e1 e2 o1 o2 j w' v:=by
 intro j w w' v h;unfold FZ at*;exact yV
theorem PX (nn:Nat) (w0:World) (N ob M:Nat) (J Jx:List (Int × Int)→World→Prop) (p:Option Addr) (c:Nat) (ns:List Nd) (ha:ay w0 p ns) (xo:Small ns) (ht:Tree ns) (v0 v1 v2 v3:Value) (s:Fs) (hs:nc w0 v0 v1 v2 v3 s) (hf:Fit ns s) (tb mb TB YB DB l:Nat)
  (hJ:∀pr A B,J pr A→Below A.heap.size A B→J pr B) (hw0:w0.heap.size≤N) (AH:mb<N) (xq:mb≠ob)
  (hY:∀m pre x W,J pre W→pre.length<M→YieldAt Fence.wide m Tryz.prog l (qT x) W fun e W'=>(e=.returned (.bool true)∧J (pre++[x]) W'∧Kt w0.heap.size N ob W W')∨(e=.returned (.bool false)∧Jx (pre++[x]) W'))
  (k i:Nat) (hi:i<ns.length)
  (az:aq ns (i:Int)=27):pS nn w0 N ob M J Jx p c ns v0 v1 v2 v3 s tb mb TB YB DB l (k+1) i:=by
 intro yes pr W hE FC hM;have hdd:∀k:Nat,(Fence.wide.depth.isSome=true→1≤k):=fun k h=>by cases h
 have uKq:=aF hE.below ha;obtain⟨b,o,hp,bO,ct,aG,k0,k1,k2,k3⟩:=bh uKq hi;have cD:=aL ct;rw [az] at cD;have ke:dS ns (i:Int)=(ns[i]).text.toList:=ri;have bP:ax ns (i:Int)=(ns[i]).kids:=iA;have oK:=jQ ht hi (by simp [az]);rw [bP] at oK;have o8:0<ns[i].kids.length:=af;have mJ:1<ns[i].kids.length:=af;obtain⟨bk,ok,eO,mK,kz⟩:=bQ aG o8;obtain⟨bk2,ok2,JN,_,ED⟩:=bQ aG mJ;rw [eO] at JN;cases JN;have dA:=bH ht (n:=(i:Int)) af (ns[i].kids[0]) (by rw [bP];exact List.getElem_mem o8);have ep:=bH ht (n:=(i:Int)) af (ns[i].kids[1]) (by rw [bP];exact List.getElem_mem mJ);obtain⟨z,hz⟩:∃z:Nat,ns[i].kids[0]=(z:Int):=⟨(ns[i].kids[0]).toNat,by omega⟩;obtain⟨z1,hz1⟩:∃z:Nat,ns[i].kids[1]=(z:Int):=⟨(ns[i].kids[1]).toNat,by omega⟩;have hg:ns[i].kids.getD 0 0=(z:Int):=by rw [aZ o8,hz]
 have hg1:ns[i].kids.getD 1 0=(z1:Int):=by rw [aZ mJ,hz1]
 rw [hg,Nat.add_zero] at kz;rw [hg1] at ED;rw [hz] at dA;rw [hz1] at ep;obtain⟨R,hR⟩:∃R,R=aW ns s.vars s.uses (k+1) i yes:=⟨_,rfl⟩;rw [←hR] at hM ⊢;unfold aW n9 uU at hR;rw [if_neg cX,if_neg cX,if_neg cX,if_neg cX,if_pos az,bP,hg,hg1,ke] at hR;unfold eqP at hR;obtain⟨ea,Zr⟩:∃x,x=dN ns s.vars s.uses z z1:=⟨_,rfl⟩;obtain⟨eb,OY⟩:∃x,x=dN ns s.vars s.uses z1 z:=⟨_,rfl⟩;rw [←Zr,←OY] at hR;have alP:bits .andNot .i64 127 ea.2=127 - ea.2:=by rw [Zr];exact om _ _ _ _ _
 have alQ:bits .andNot .i64 127 eb.2=127 - eb.2:=by rw [OY];exact om _ _ _ _ _
 obtain⟨ia,hia⟩:∃b,b=decide (0≤ea.1):=⟨_,rfl⟩;obtain⟨ib,hib⟩:∃b,b=decide (0≤eb.1):=⟨_,rfl⟩;have H6:∀(a d:Nat),a<ns.length→d<ns.length→∀w1,Below W.heap.size W w1→Calls Tryz.prog 126 #[.pointer (some ⟨tb,0,none⟩),.int .i64 a,.int .i64 d] w1 (RS ns s a d w1):=fun a d hla hld w1 hw=>
  RT w1 p c ns (aF hw uKq) xo ht v0 v1 v2 v3 s ((hs.later hE.below).later hw) hf tb mb (hE.tell.later hw) (hE.map.kept (bK hw) ak) a d hla hld
 have H6a:Hid (∀w1,Below W.heap.size W w1→Calls Tryz.prog 126 #[.pointer (some ⟨tb,0,none⟩),.int .i64 z,.int .i64 z1] w1 fun e w'=>∃v k:Int,e=.returned (.tuple #[.agg #[.int .i64 v,.int .i64 k],.bool ia])∧Below w1.heap.size w1 w'∧(ia=true→v=ea.1∧k=ea.2)):=hid fun w1 hw=>
  (H6 z z1 af af w1 hw).mono fun e w' ⟨v,k,is,h1,h2,h3,h4⟩=>by
   rw [←Zr] at h3 h4;rw [←hia] at h3;subst h3;exact⟨v,k,h1,h2,h4⟩
 have H6b:Hid (∀w1,Below W.heap.size W w1→Calls Tryz.prog 126 #[.pointer (some ⟨tb,0,none⟩),.int .i64 z1,.int .i64 z] w1 fun e w'=>∃v k:Int,e=.returned (.tuple #[.agg #[.int .i64 v,.int .i64 k],.bool ib])∧Below w1.heap.size w1 w'∧(ib=true→v=eb.1∧k=eb.2)):=hid fun w1 hw=>
  (H6 z1 z af af w1 hw).mono fun e w' ⟨v,k,is,h1,h2,h3,h4⟩=>by
   rw [←OY] at h3 h4;rw [←hib] at h3;subst h3;exact⟨v,k,h1,h2,h4⟩
 obtain⟨⟨p0,c0,rfl,h0⟩,⟨p1,c1,rfl,h1⟩,⟨p2,c2,rfl,h2⟩,⟨p3,c3,rfl,h3⟩,_⟩:=hs;clear h0 h1 h2 h3;have t0:=hE.tT.cell;have t1:=hE.tU.cell;have t2:=hE.o7.cell;have l0:=hE.tT.lt;have l1:=hE.tU.lt;have l2:=hE.o7.lt;have x0:=hE.tell.cell 0;have ltb:=hE.tell.lt;simp only [List.getElem?_toArray,List.getElem?_cons_zero,List.getElem?_cons_succ] at x0;have HE:=hid hE;have a0:(0:Int)≤(i:Int):=af;have a1:(i:Int)<(ns.length:Int):=af;generalize ns[i]=x at*;obtain⟨xk,xt,xp,xc,dx,eY⟩:=x;simp only at k0 k1 k2 k3 cD o8 mJ eO hR;subst cD;subst hp;subst eO;have BV:=hid hR;have HM:=hid hM;have Iw:=hid FC;have HJ:=hid hJ;have HY:=hid hY;have Hia:=hid hia;have Hib:=hid hib;have aqN:=hid alP;have aqO:=hid alQ;have BH:(0:Int)<(dx.length:Int):=af;have yX:¬dx.length=0:=af;have hq3:(1:Int)<(dx.length:Int):=af;have hq4:1<dx.length:=af;clear hR hM hE FC ct aG az hJ hY hf ht hw0 ha uKq xo AH xq bP dA ep hz hz1 hg hg1 oK ke Zr OY hia hib alP alQ H6 o8 mJ;generalize hqq:dx.length=q at*;clear hqq;generalize s.vars.length=n0 at*;generalize s.uses.length=n1 at*;generalize s.funcs.length=n2 at*;generalize s.cF.length=n3 at*;generalize ns.length=L at*;by_cases hno:xt.toList≠XR∧xt.toList≠neW
 ·have hr:R=[]:=by rw [BV.out,if_pos hno]
  have Hr:=hid hr;have hb1:(xt.toList==[61,61])=false:=by
   cases h:(xt.toList==[61,61]) with
   |false=>rfl
   |true=>exact absurd (eq_of_beq h) hno.1
  have hb2:(xt.toList==[126,61])=false:=by
   cases h:(xt.toList==[126,61]) with
   |false=>rfl
   |true=>exact absurd (eq_of_beq h) hno.2
  clear hr BV hno;exact RU
 ·have F0:∃eq:Bool,(xt.toList==[61,61])=eq∧(eq=false→(xt.toList==[126,61])=true)∧decide (xt.toList=XR)=eq:=by
   by_cases h1:xt.toList=XR
   ·exact⟨true,by rw [h1];rfl,(fun h=>nomatch h),decide_eq_true h1⟩
   ·have h2:xt.toList=neW:=Classical.byContradiction fun h=>hno ⟨h1,h⟩
    exact⟨false,by rw [h2];rfl,fun _=>by rw [h2];rfl,decide_eq_false h1⟩
  obtain⟨eq,hb1,hb2,hdec⟩:=F0;have HR:Hid (R=if(if ea.1<0 then eb else ea).1<0 then [] else [((if ea.1<0 then eb else ea).1,if eq !=yes then 127 - (if ea.1<0 then eb else ea).2 else(if ea.1<0 then eb else ea).2)]):=hid (by rw [BV.out,if_neg hno,hdec]);clear BV hno hdec;refine callsIn_of_wp Tryz.func124 rfl trivial ?_ rfl;simp only [Tryz.ntmps124,List.size_toArray,List.length_cons,List.length_nil,Nat.reduceAdd,Nat.reduceSub,Array.replicate_succ,Array.replicate_zero,List.push_toArray,List.append_toArray,List.nil_append,List.cons_append];gi_wp2;refine⟨trivial, ?_⟩;rename_i Ka_ ahu Kb_ JO;refine JO _ _ ?_;cases eq with
  |true=>
   gi_wp2;obtain⟨W2,hW2⟩:∃W2,W2=W.alloc (.cells #[.int .i64 27,.string xt,.slice (some ⟨bk,ok,none⟩) q xc,.int .i64 eY] 56):=⟨_,rfl⟩;have hb2:Below W.heap.size W W2:=BW;have lA:W.heap.size<W2.heap.size:=by rw [hW2];simp
   have nh:W2.heap[W.heap.size]?=some (.cells #[.int .i64 27,.string xt,.slice (some ⟨bk,ok,none⟩) q xc,.int .i64 eY] 56 (0,0)):=LJ;rw [←hW2];have pV:=hid hb2;clear hW2 hb2 k0 k1 k2 k3;rename_i K_ hK_ K2_ tV;refine Am.er ai ?_;refine Am.fG fun lW hz1 hz2 hz3 FH=>?_
   refine Am.eJ (Φ:=FY (.pointer (some ⟨tb,0,none⟩)) (.slice (some ⟨bk,ok,none⟩) q xc) W.heap.size bk ok z z1 ia ea.1 ea.2 ok (ok+1)) (I:=yY W.heap.size #[.int .i64 27,.string xt,.slice (some ⟨bk,ok,none⟩) q xc,.int .i64 eY] W W2.heap.size 13 14 ia ea.1 ea.2) ai ai wm ?_ ?_ _ _ _ _ hz1 hz2 ⟨pV.out.drew,nh,Nat.le_refl _,fun h=>by rw [hz3] at h;cases h⟩ rfl rfl FH (fun j p d _ _ hj=>by rw [hz3] at hj;cases hj) (fun _ _=>rfl)
   ·exact alT
   ·intro ca w1 f hI hall hd hs aT bp;have h11:ca.tmps.getD 11 undef=.bool ia:=aT 15 _ 11 rfl rfl;obtain⟨U,v,kk,h10,hU,hUN,jM⟩:=hI.box (hall 13 aj);have ue:=jM (hall 14 aj);have bf:=Am.bC hd hs bp;simp only [List.foldl_cons,List.foldl_nil,h10,h11] at bf;generalize ca.tmps.getD 99 undef=y99 at bf;generalize ca.tmps.getD 100 undef=aqR at bf;generalize ca.tmps.getD 101 undef=aqS at bf;generalize ca.tmps.getD 102 undef=aqT at bf;generalize ca.tmps.getD 103 undef=aqU at bf;generalize ca.tmps.getD 104 undef=aqV at bf;generalize ca.tmps.getD 105 undef=aqW at bf;generalize ca.tmps.getD 106 undef=aqX at bf;generalize ca.tmps.getD 107 undef=aqY at bf;generalize ca.tmps.getD 108 undef=aqZ at bf;generalize ca.tmps.getD 109 undef=aq0 at bf;generalize ca.tmps.getD 110 undef=aq1 at bf;generalize ca.tmps.getD 111 undef=aq2 at bf;subst bf;simp only [List.setIfInBounds_toArray,List.set_cons_succ,List.set_cons_zero];have F2:=hid hI.below;have ug:=hid hI.node;have HU:=hid hU;have Iu:=hid ue;have HUN:=hid hUN;have c1:w1.cell? ⟨W.heap.size,1,none⟩=some (.string xt):=iK;have u0:w1.cell? ⟨U,0,none⟩=some (.int .i64 v):=wu;have u1:w1.cell? ⟨U,1,none⟩=some (.int .i64 kk):=wu;have uf:∀k,w1.frozen? ⟨U,k,none⟩=false:=fun k=>by simp [World.frozen?,hU]
    have y1c:=(hI.below.cell (p:=⟨YB,0,none⟩) l1).trans t1;clear hI hall hd hs aT bp h10 h11 hU jM ue hUN;refine tV _ _ ?_;have hAU:W.heap.size≠U:=by have:=HUN.out;omega
    have hWU:W.heap.size≤U:=by have:=HUN.out;omega
    cases ia with
    |true=>
     cases yes with
     |true=>
      exact adD
     |false=>
      exact adE
    |false=>
     have hlt:ea.1<0:=by have:=Hia.out;simp at this;omega
     gi_wp2;rename_i K9_ ahv;refine Am.er ai ?_;refine Am.fG fun lW hz1 hz2 hz3 FH=>?_
     refine Am.eJ (Φ:=FZ (.pointer (some ⟨tb,0,none⟩)) (.slice (some ⟨bk,ok,none⟩) q xc) W.heap.size bk ok z1 z ib eb.1 eb.2 (ok+1) ok) (I:=wB W.heap.size #[.int .i64 27,.string xt,.slice (some ⟨bk,ok,none⟩) q xc,.int .i64 eY] W U 13 ib eb.1 eb.2) ai ai wo ?_ ?_ _ _ _ _ hz1 hz2 ⟨F2.out.drew,ug.out,v,kk,HU.out,fun h=>by rw [hz3] at h;cases h⟩ rfl rfl FH (fun j p d _ _ hj=>by rw [hz3] at hj;cases hj) (fun _ _=>rfl)
     ·exact alW
     ·intro ca w9 f hI hall hd hs aT bp;have h11:ca.tmps.getD 11 undef=.bool ib:=aT 14 _ 11 rfl rfl;obtain⟨v9,kk9,hU9,RV⟩:=hI.box;have ue:=RV (hall 13 aj);have bf:=Am.bC hd hs bp;simp only [List.foldl_cons,List.foldl_nil,h11] at bf;generalize ca.tmps.getD 114 undef=awX at bf;generalize ca.tmps.getD 115 undef=awY at bf;generalize ca.tmps.getD 116 undef=awZ at bf;generalize ca.tmps.getD 117 undef=aw0 at bf;generalize ca.tmps.getD 118 undef=aw1 at bf;generalize ca.tmps.getD 119 undef=aw2 at bf;generalize ca.tmps.getD 120 undef=aw3 at bf;generalize ca.tmps.getD 121 undef=aw4 at bf;generalize ca.tmps.getD 122 undef=aw5 at bf;generalize ca.tmps.getD 123 undef=aw6 at bf;generalize ca.tmps.getD 124 undef=aw7 at bf;generalize ca.tmps.getD 125 undef=aw8 at bf;generalize ca.tmps.getD 126 undef=aw9 at bf;subst bf;simp only [List.setIfInBounds_toArray,List.set_cons_succ,List.set_cons_zero];have RX:=hid hI.below;have yZ:=hid hI.node;have HU9:=hid hU9;have RY:=hid ue;clear hI hall hd hs aT bp h11 hU9 RV ue F2 ug HU Iu c1 u0 u1 uf y1c;have F2:=RX;have ug:=yZ;have HU:=HU9;have Iu:=RY;clear RX yZ HU9 RY;refine ahv _ _ ?_;have c1:w9.cell? ⟨W.heap.size,1,none⟩=some (.string xt):=by simp [World.cell?,ug.out]
      have u0:w9.cell? ⟨U,0,none⟩=some (.int .i64 v9):=by simp [World.cell?,HU.out]
      have u1:w9.cell? ⟨U,1,none⟩=some (.int .i64 kk9):=by simp [World.cell?,HU.out]
      have uf:∀k,w9.frozen? ⟨U,k,none⟩=false:=fun k=>by simp [World.frozen?,HU.out]
      have y1c:=(F2.out.cell (p:=⟨YB,0,none⟩) l1).trans t1;cases ib with
      |true=>
       cases yes with
       |true=>
        exact adF
       |false=>
        exact adG
      |false=>
       have hlb:eb.1<0:=by have:=Hib.out;simp at this;omega
       have hr:R=[]:=by rw [HR.out,if_pos hlt,if_pos hlb]
       have Hr:=hid hr;clear hr hlb hlt;cases yes with
       |true=>
        have nE:=F2;gi_wp2;refine⟨nofun, ?_⟩;rename_i A_ hA_ B_ hB_ x_ h_ w_ Zs;exact Dx
       |false=>
        have nE:=hid (F2.out.setCell (p:=⟨U,1,none⟩) hWU (.int .i64 (bits .andNot .i64 127 kk9)));gi_wp2;refine⟨nofun, ?_⟩;rename_i A_ hA_ B_ hB_ x_ h_ w_ Zs;exact Dx
  |false=>
   have hb3:=hb2 rfl;clear hb2;gi_wp2;obtain⟨W2,hW2⟩:∃W2,W2=W.alloc (.cells #[.int .i64 27,.string xt,.slice (some ⟨bk,ok,none⟩) q xc,.int .i64 eY] 56):=⟨_,rfl⟩;have hb2:Below W.heap.size W W2:=BW;have lA:W.heap.size<W2.heap.size:=by rw [hW2];simp
   have nh:W2.heap[W.heap.size]?=some (.cells #[.int .i64 27,.string xt,.slice (some ⟨bk,ok,none⟩) q xc,.int .i64 eY] 56 (0,0)):=LJ;rw [←hW2];have pV:=hid hb2;clear hW2 hb2 k0 k1 k2 k3;rename_i K_ hK_ K2_ tV;refine Am.er ai ?_;refine Am.fG fun lW hz1 hz2 hz3 FH=>?_
   refine Am.eJ (Φ:=FY (.pointer (some ⟨tb,0,none⟩)) (.slice (some ⟨bk,ok,none⟩) q xc) W.heap.size bk ok z z1 ia ea.1 ea.2 ok (ok+1)) (I:=yY W.heap.size #[.int .i64 27,.string xt,.slice (some ⟨bk,ok,none⟩) q xc,.int .i64 eY] W W2.heap.size 13 14 ia ea.1 ea.2) ai ai wm ?_ ?_ _ _ _ _ hz1 hz2 ⟨pV.out.drew,nh,Nat.le_refl _,fun h=>by rw [hz3] at h;cases h⟩ rfl rfl FH (fun j p d _ _ hj=>by rw [hz3] at hj;cases hj) (fun _ _=>rfl)
   ·exact alT
   ·intro ca w1 f hI hall hd hs aT bp;have h11:ca.tmps.getD 11 undef=.bool ia:=aT 15 _ 11 rfl rfl;obtain⟨U,v,kk,h10,hU,hUN,jM⟩:=hI.box (hall 13 aj);have ue:=jM (hall 14 aj);have bf:=Am.bC hd hs bp;simp only [List.foldl_cons,List.foldl_nil,h10,h11] at bf;obtain⟨yf,jL⟩:∃y:Nat→Value,∀t,ca.tmps.getD t undef=y t:=⟨_,fun _=>rfl⟩;simp only [jL] at bf;clear jL;subst bf;simp only [List.setIfInBounds_toArray,List.set_cons_succ,List.set_cons_zero];have F2:=hid hI.below;have ug:=hid hI.node;have HU:=hid hU;have Iu:=hid ue;have HUN:=hid hUN;have c1:w1.cell? ⟨W.heap.size,1,none⟩=some (.string xt):=iK;have u0:w1.cell? ⟨U,0,none⟩=some (.int .i64 v):=wu;have u1:w1.cell? ⟨U,1,none⟩=some (.int .i64 kk):=wu;have uf:∀k,w1.frozen? ⟨U,k,none⟩=false:=fun k=>by simp [World.frozen?,hU]
    have y1c:=(hI.below.cell (p:=⟨YB,0,none⟩) l1).trans t1;clear hI hall hd hs aT bp h10 h11 hU jM ue hUN;refine tV _ _ ?_;have hAU:W.heap.size≠U:=by have:=HUN.out;omega
    have hWU:W.heap.size≤U:=by have:=HUN.out;omega
    cases ia with
    |true=>
     cases yes with
     |true=>
      exact adE
     |false=>
      exact adD
    |false=>
     have hlt:ea.1<0:=by have:=Hia.out;simp at this;omega
     gi_wp2;rename_i K9_ ahv;refine Am.er ai ?_;refine Am.fG fun lW hz1 hz2 hz3 FH=>?_
     refine Am.eJ (Φ:=FZ (.pointer (some ⟨tb,0,none⟩)) (.slice (some ⟨bk,ok,none⟩) q xc) W.heap.size bk ok z1 z ib eb.1 eb.2 (ok+1) ok) (I:=wB W.heap.size #[.int .i64 27,.string xt,.slice (some ⟨bk,ok,none⟩) q xc,.int .i64 eY] W U 13 ib eb.1 eb.2) ai ai wo ?_ ?_ _ _ _ _ hz1 hz2 ⟨F2.out.drew,ug.out,v,kk,HU.out,fun h=>by rw [hz3] at h;cases h⟩ rfl rfl FH (fun j p d _ _ hj=>by rw [hz3] at hj;cases hj) (fun _ _=>rfl)
     ·exact alW
     ·intro ca w9 f hI hall hd hs aT bp;have h11:ca.tmps.getD 11 undef=.bool ib:=aT 14 _ 11 rfl rfl;obtain⟨v9,kk9,hU9,RV⟩:=hI.box;have ue:=RV (hall 13 aj);have bf:=Am.bC hd hs bp;simp only [List.foldl_cons,List.foldl_nil,h11] at bf;obtain⟨yf,jL⟩:∃y:Nat→Value,∀t,ca.tmps.getD t undef=y t:=⟨_,fun _=>rfl⟩;simp only [jL] at bf;clear jL;subst bf;simp only [List.setIfInBounds_toArray,List.set_cons_succ,List.set_cons_zero];have RX:=hid hI.below;have yZ:=hid hI.node;have HU9:=hid hU9;have RY:=hid ue;clear hI hall hd hs aT bp h11 hU9 RV ue F2 ug HU Iu c1 u0 u1 uf y1c;have F2:=RX;have ug:=yZ;have HU:=HU9;have Iu:=RY;clear RX yZ HU9 RY;refine ahv _ _ ?_;have c1:w9.cell? ⟨W.heap.size,1,none⟩=some (.string xt):=by simp [World.cell?,ug.out]
      have u0:w9.cell? ⟨U,0,none⟩=some (.int .i64 v9):=by simp [World.cell?,HU.out]
      have u1:w9.cell? ⟨U,1,none⟩=some (.int .i64 kk9):=by simp [World.cell?,HU.out]
      have uf:∀k,w9.frozen? ⟨U,k,none⟩=false:=fun k=>by simp [World.frozen?,HU.out]
      have y1c:=(F2.out.cell (p:=⟨YB,0,none⟩) l1).trans t1;cases ib with
      |true=>
       cases yes with
       |true=>
        exact adG
       |false=>
        exact adF
      |false=>
       have hlb:eb.1<0:=by have:=Hib.out;simp at this;omega
       have hr:R=[]:=by rw [HR.out,if_pos hlt,if_pos hlb]
       have Hr:=hid hr;clear hr hlb hlt;cases yes with
       |true=>
        have nE:=hid (F2.out.setCell (p:=⟨U,1,none⟩) hWU (.int .i64 (bits .andNot .i64 127 kk9)));gi_wp2;refine⟨nofun, ?_⟩;rename_i A_ hA_ B_ hB_ x_ h_ w_ Zs;exact Dx
       |false=>
        have nE:=F2;gi_wp2;refine⟨nofun, ?_⟩;rename_i A_ hA_ B_ hB_ x_ h_ w_ Zs;exact Dx
end Go.Proofs.YtjchnliaglecoaaGreatDoor

/- A part of the proof. Conditions: none. -/
set_option maxRecDepth 100000
set_option maxHeartbeats 8000000
namespace Go.Proofs.YtjchnliaglecoaaGreatDoor
open Go Go.RowKit Go.Nodes Go.Am Go.Shelf
theorem E7 (w0:World) (N ob M:Nat) (J Jx:List (Int × Int)→World→Prop) (p:Option Addr) (c:Nat) (ns:List Nd) (ha:ay w0 p ns) (xo:Small ns) (ht:Tree ns) (v0 v1 v2 v3:Value) (s:Fs) (hs:nc w0 v0 v1 v2 v3 s) (hf:Fit ns s) (tb mb TB YB DB l:Nat)
  (hJ:∀pr A B,J pr A→Below A.heap.size A B→J pr B) (hw0:w0.heap.size≤N) (AH:mb<N) (xq:mb≠ob)
  (hY:∀m pre x W,J pre W→pre.length<M→YieldAt Fence.wide m Tryz.prog l (qT x) W fun e W'=>(e=.returned (.bool true)∧J (pre++[x]) W'∧Kt w0.heap.size N ob W W')∨(e=.returned (.bool false)∧Jx (pre++[x]) W')):
  ∀(k nn i:Nat),i<k→i<ns.length→pS nn w0 N ob M J Jx p c ns v0 v1 v2 v3 s tb mb TB YB DB l k i
 |0,_,_,h,_=>absurd h (Nat.not_lt_zero _)
 |k+1,nn,i,hik,hi=>by
  have ih:∀(n z:Nat),z<i→pS n w0 N ob M J Jx p c ns v0 v1 v2 v3 s tb mb TB YB DB l k z:=fun n z hz=>E7 w0 N ob M J Jx p c ns ha xo ht v0 v1 v2 v3 s hs hf tb mb TB YB DB l hJ hw0 AH xq hY k n z af af
  by_cases PS:aq ns (i:Int)=17
  ·exact PT nn w0 N ob M J Jx p c ns ha ht v0 v1 v2 v3 s hs hf tb mb TB YB DB l hJ hw0 hY k i hi PS
  ·by_cases h28:aq ns (i:Int)=28
   ·exact PU nn w0 N ob M J Jx p c ns ha xo ht v0 v1 v2 v3 s hs hf tb mb TB YB DB l hJ hw0 AH xq hY k i hi ih h28
   ·by_cases h29:aq ns (i:Int)=29
    ·exact PV nn w0 N ob M J Jx p c ns ha xo ht v0 v1 v2 v3 s hs hf tb mb TB YB DB l hJ hw0 AH xq hY k i hi ih h29
    ·by_cases h30:aq ns (i:Int)=30
     ·exact PW nn w0 N ob M J Jx p c ns ha xo ht v0 v1 v2 v3 s hs hf tb mb TB YB DB l hJ hw0 AH xq hY k i hi ih h30
     ·by_cases h27:aq ns (i:Int)=27
      ·exact PX nn w0 N ob M J Jx p c ns ha xo ht v0 v1 v2 v3 s hs hf tb mb TB YB DB l hJ hw0 AH xq hY k i hi h27
      ·exact M0 nn w0 N ob M J Jx p c ns ha xo ht v0 v1 v2 v3 s hs hf tb mb TB YB DB l hJ hw0 AH xq hY k i hi _ rfl ⟨PS,h28,h29,h30,h27⟩
end Go.Proofs.YtjchnliaglecoaaGreatDoor

/- A part of the proof. Conditions: none. -/
set_option maxRecDepth 100000
set_option maxHeartbeats 8000000
namespace Go.Proofs.YtjchnliaglecoaaGreatDoor
open Go Go.RowKit Go.Nodes Go.Am Go.Shelf
attribute [local go_sem] Oper.semAt_some
theorem ab1 (w:World) (tb:Nat) (i:Int) (yes:Bool):Calls Tryz.prog 75 #[.pointer (some ⟨tb,0,none⟩),.int .i64 i,.bool yes] w fun e w'=>
  e=.returned (.func (.func 123) #[] #[.pointer (some ⟨w.heap.size,0,none⟩),.pointer (some ⟨w.heap.size+1,0,none⟩),.pointer (some ⟨w.heap.size+2,0,none⟩)])∧
  w'=((w.alloc (.cells #[.pointer (some ⟨tb,0,none⟩)] 118)).alloc (.cells #[.int .i64 i] 3)).alloc (.cells #[.bool yes] 4):=by
 go_enter Tryz.func75,Tryz.ntmps75;go_wp2;go_ret;exact⟨rfl,rfl⟩
theorem Oy (n l:Nat) (w0:World) (N ob:Nat) (J Jx:List (Int × Int)→World→Prop) (p:Option Addr) (c:Nat) (ns:List Nd) (ha:ay w0 p ns) (xo:Small ns) (ht:Tree ns) (v0 v1 v2 v3:Value) (s:Fs) (hs:nc w0 v0 v1 v2 v3 s) (hf:Fit ns s) (tb mb TB NB YB i:Nat) (yes:Bool) (hi:i<ns.length)
  (hw0:w0.heap.size≤N) (AH:mb<N) (xq:mb≠ob) (W:World) (hN:N≤W.heap.size) (hb:Below w0.heap.size w0 W) (hT:jV W tb p ns.length c v0 v1 v2 v3 mb) (hM:fe W mb (AL 7))
  (hTB:Boxed W TB 118 (.pointer (some ⟨tb,0,none⟩))) (hNB:Boxed W NB 3 (.int .i64 i)) (hYB:Boxed W YB 4 (.bool yes))
  (hJ:∀pr A B,J pr A→Below A.heap.size A B→J pr B)
  (hY:∀pre x W1,J pre W1→pre.length<(aW ns s.vars s.uses ns.length i yes).length→YieldAt Fence.wide (n - 1) Tryz.prog l (qT x) W1 fun e W'=>(e=.returned (.bool true)∧J (pre++[x]) W'∧Kt w0.heap.size N ob W1 W')∨(e=.returned (.bool false)∧Jx (pre++[x]) W'))
  (h0:J [] W):
  CallsIn Fence.wide n Tryz.prog 123 #[.func (.yield l) #[] #[],.pointer (some ⟨TB,0,none⟩),.pointer (some ⟨NB,0,none⟩),.pointer (some ⟨YB,0,none⟩)] W fun e W'=>(∃v,e=.returned v)∧
   ((∃ys,ys=aW ns s.vars s.uses ns.length i yes∧J ys W')∨(∃pre,True∧Jx pre W')):=by
 have hdd:∀k:Nat,(Fence.wide.depth.isSome=true→1≤k):=fun k h=>by cases h
 obtain⟨R,hR⟩:∃R,R=aW ns s.vars s.uses ns.length i yes:=⟨_,rfl⟩;rw [←hR] at hY ⊢;obtain⟨W3,hW3⟩:∃W3,W3=((W.alloc (.cells #[.func (.yield l) #[] #[]] 160)).alloc (.cells #[.func (.func 124) #[] #[.pointer (some ⟨TB,0,none⟩),.pointer (some ⟨W.heap.size,0,none⟩),.pointer (some ⟨W.heap.size+1,0,none⟩)]] 161)):=⟨_,rfl⟩;have hb3:Below W.heap.size W W3:=by rw [hW3];repeat (first|exact Below.refl _ _|refine bA ?_ _)
 have hE:AW w0 N p c ns.length v0 v1 v2 v3 tb mb TB W.heap.size (W.heap.size+1) l W3:=by
  refine⟨hb.trans (hb3.mono hb.size),Nat.le_trans hN hb3.size,hTB.kept (bK hb3) ak, ?_, ?_,hT.later hb3,hM.kept (bK hb3) ak⟩
  ·rw [hW3];exact(Boxed.new W 160 _).alloc _
  ·rw [hW3];have h1:=Boxed.new (W.alloc (.cells #[.func (.yield l) #[] #[]] 160)) 161 (.func (.func 124) #[] #[.pointer (some ⟨TB,0,none⟩),.pointer (some ⟨W.heap.size,0,none⟩),.pointer (some ⟨W.heap.size+1,0,none⟩)]);have h2:(W.alloc (.cells #[.func (.yield l) #[] #[]] 160)).heap.size=W.heap.size+1:=ak;rw [h2] at h1;exact h1
 have hD:=E7 w0 N ob R.length J Jx p c ns ha xo ht v0 v1 v2 v3 s hs hf tb mb TB W.heap.size (W.heap.size+1) l hJ hw0 AH xq (fun m pre x W1 hj hl=>YieldAt.zn rfl m (hY pre x W1 hj hl)) ns.length (n - 1) i hi hi yes [] W3 hE (hJ _ _ _ h0 hb3) (by rw [←hR];simp);rw [←hR] at hD;have HD:=hid hD;have n0:=hNB.cell;have n1:=hYB.cell;have m0:=hNB.lt;have m1:=hYB.lt;clear hR hY hE hD hJ ha xo ht hs hf hT hM hTB hNB hYB hb h0 hb3 hi AH xq hw0 hN;refine callsIn_of_wp Tryz.func123 rfl trivial ?_ rfl;simp only [Tryz.ntmps123,List.size_toArray,List.length_cons,List.length_nil,Nat.reduceAdd,Nat.reduceSub,Array.replicate_succ,Array.replicate_zero,List.push_toArray,List.append_toArray,List.nil_append,List.cons_append];gi_wp2_with (refine⟨trivial, ?_⟩;(try refine⟨hdd _, ?_⟩);gi_at_call 124;rw [←hW3];refine HD.out.mono ?_;clear HD;rintro e W4 (⟨rfl,hJ4,hk4⟩|⟨rfl,q4,hx4⟩))
 ·go_end0;exact⟨⟨_,rfl⟩,.inl ⟨R,rfl,hJ4⟩⟩
 ·go_end0;exact⟨⟨_,rfl⟩,.inr ⟨_,trivial,hx4⟩⟩
theorem Ee (n:Nat) (w0 w5:World) (ob:Nat) (p:Option Addr) (c:Nat) (ns:List Nd) (ha:ay w0 p ns) (xo:Small ns) (ht:Tree ns) (v0 v1 v2 v3:Value) (s:Fs) (hs:nc w0 v0 v1 v2 v3 s) (hf:Fit ns s) (tb mb TB NB YB i:Nat) (yes:Bool) (hi:i<ns.length)
  (hb:Below w0.heap.size w0 w5) (xq:mb≠ob) (hT:jV w5 tb p ns.length c v0 v1 v2 v3 mb) (hM:fe w5 mb (AL 7))
  (hTB:Boxed w5 TB 118 (.pointer (some ⟨tb,0,none⟩))) (hNB:Boxed w5 NB 3 (.int .i64 i)) (hYB:Boxed w5 YB 4 (.bool yes)):
  SeqStopsK Fence.wide n Tryz.prog 123 #[.pointer (some ⟨TB,0,none⟩),.pointer (some ⟨NB,0,none⟩),.pointer (some ⟨YB,0,none⟩)] qT (Kt w0.heap.size w5.heap.size ob) (fun ys=>ys=aW ns s.vars s.uses ns.length i yes) (fun _=>True) (aW ns s.vars s.uses ns.length i yes).length w5:=fun l J Jx W hW hJ _ hY h0=>by
 have hmb:mb<w5.heap.size:=by obtain⟨k,D,⟨es,uZ,hh,_⟩,_⟩:=hM.own;exact(Array.getElem?_eq_some_iff.1 hh).1
 exact Oy n l w0 w5.heap.size ob J Jx p c ns ha xo ht v0 v1 v2 v3 s hs hf tb mb TB NB YB i yes hi hb.size hmb xq W hW.size (hb.trans (hW.mono hb.size)) (hT.later hW) (hM.kept (bK hW) ak) (hTB.kept (bK hW) ak) (hNB.kept (bK hW) ak) (hYB.kept (bK hW) ak)
  (fun pr A B hj hab=>hJ pr A B none hj (bK hab) (fun r e=>by cases e)) hY h0
end Go.Proofs.YtjchnliaglecoaaGreatDoor

/- A part of the proof. Conditions: none. -/
set_option maxRecDepth 100000
set_option maxHeartbeats 8000000
namespace Go.Proofs.YtjchnliaglecoaaGreatDoor
open Go Go.RowKit Go.Nodes Go.Am
theorem KC {W w2:World} {B N ob:Nat} {v v':Value} {k m:Nat} {xs ys:List Value} {cs:Array Value} (hv:Boxed W ob 32 v) (hrow:W.ownsRow N 58 2 v k xs) (hN:N≤W.heap.size) (hob:ob<N) (hB:B≤ob)
  (hown:w2.ownsRow N 58 2 v' m ys) (hg:(W.alloc (.cells cs 58)).grownBy w2 v.ownBlock):
  Boxed w2 ob 32 v∧Boxed (w2.setCell ⟨ob,0,none⟩ v') ob 32 v'∧(w2.setCell ⟨ob,0,none⟩ v').ownsRow N 58 2 v' m ys∧KeepsFrom N W (w2.setCell ⟨ob,0,none⟩ v')∧Kt B N ob W (w2.setCell ⟨ob,0,none⟩ v'):=by
 have MP:Boxed w2 ob 32 v:=(hv.alloc _).kept hg (hv.not_row aj hrow);have gb:=grownBy_setCell' w2 ob v';have hgo:∀g,v.ownBlock=some g→N≤g∧∃c fz,W.heap[g]?=some (.cells c 58 fz):=by
  intro g fR;rcases hrow.2 with⟨rfl,_⟩|⟨g',cap,cur,rfl,hgN,hgb,_⟩
  ·simp [Value.ownBlock] at fR
  ·obtain rfl:g'=g:=by simpa [Value.ownBlock] using fR
   exact⟨hgN,_,_,hgb⟩
 have blk:∀b,b<W.heap.size→b≠ob→v.ownBlock≠some b→(w2.setCell ⟨ob,0,none⟩ v').heap[b]?=W.heap[b]?:=fun b hlt h1 h2=>by
  have aoa:b<(W.alloc (.cells cs 58)).heap.size:=bt;have atA:b<w2.heap.size:=Nat.lt_of_lt_of_le aoa hg.size;exact(gb.block b atA (fun e=>h1 (by cases e;rfl))).trans ((hg.block b aoa (fun e=>h2 e.symm)).trans (Below.heap_alloc _ _ _ hlt))
 have hsz:W.heap.size≤(w2.setCell ⟨ob,0,none⟩ v').heap.size:=by
  have h1:=hg.size;have h2:=gb.size;simp at h1;omega
 refine⟨MP,MP.set v',hown.kept gb (.inr (MP.not_row aj hown).symm),⟨hsz,fun b o hb hbo hc=>?_⟩, ?_,hsz,fun b hb h1=>?_,fun b cs2 t t1 t2 hb=>?_⟩
 ·refine(blk b (Array.getElem?_eq_some_iff.1 hbo).1 af (fun e=>?_)).trans hbo;obtain⟨_,c,fz,h⟩:=hgo b e;rw [hbo] at h;cases h;cases hc
 ·refine(((Below.refl B W).alloc af (.cells cs 58)).grown hg bt fun j ej=>?_).setCell (p:=⟨ob,0,none⟩) hB v';have:=(hgo j ej).1;omega
 ·exact blk b af h1 (fun e=>by have:=(hgo b e).1;omega)
 ·refine(blk b (Array.getElem?_eq_some_iff.1 hb).1 (fun e=>?_) (fun e=>?_)).trans hb
  ·subst e;rw [show W.heap[b]?=_ from hv] at hb;cases hb;exact t1 rfl
  ·obtain⟨_,c,fz,h⟩:=hgo b e;rw [hb] at h;cases h;exact t2 rfl
end Go.Proofs.YtjchnliaglecoaaGreatDoor
