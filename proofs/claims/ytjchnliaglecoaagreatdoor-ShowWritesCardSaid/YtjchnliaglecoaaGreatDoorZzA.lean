/- A part of the proof. Conditions: none. -/
import Derived.Tactics2
import Derived.TacticsIn
import Derived.OwnWalkIn
import Derived.KernelRfl
import Derived.IntWalk
import Derived.BigQuiet
import Derived.LoopTactic
import Derived.RegionTactic
import Derived.Deep.QuietTactic
import Derived.Maps.OwnSet
import Derived.StillTailTactics
import Derived.Deep.RegionHeld3
set_option linter.unusedVariables false
set_option linter.unusedSimpArgs false
set_option maxRecDepth 100000
set_option maxHeartbeats 8000000
namespace Go
variable {p:Prop}
theorem agQ (h:p:=by
 have Tw:=trivial;exact agR
 ):p:=h
theorem afH (h:p:=by
 have jB:Hid (∀w,Calls Tryz.prog 117 #[.string s] w fun e w'=>e=.returned (lY (fy s.data.toList))∧Below w.heap.size w w'):=hid (fun w=>lZ s aa w);have HL:Hid (∀w',Below w.heap.size w w'→cu w'):=hid fun w' h=>hl.later h
 clear hl h0;cases ho:fy s.data.toList with
 |none=>
  rw [ho] at jB;have eH:Hid (∀w,Calls Tryz.prog 117 #[.string s] w fun e w'=>e=.returned (.tuple #[.int .i64 0,.bool false])∧Below w.heap.size w w'):=jB;have Hr:Hid (eu false s.data.toList=false):=hid (by unfold eu;rw [ho]);exact afG
 |some n=>
  have eH:Hid (∀w,Calls Tryz.prog 117 #[.string s] w fun e w'=>e=.returned (.tuple #[.int .i64 (wrap64 n),.bool true])∧Below w.heap.size w w'):=xu;have hr:eu false s.data.toList=(decide (Lib.itoa (wrap64 n)=s.data.toList) && !(false && decide (wrap64 n=0))):=by unfold eu;rw [ho]
  have z0:=jP (n:Int);have z1:=iG (n:Int);clear jB ho;generalize wrap64 (n:Int)=z at*;obtain⟨S1,hS1⟩:∃S:ByteArray,S=⟨(Lib.itoa z).toArray⟩:=⟨_,rfl⟩;have H1:Hid (∀w,cu w→Calls Tryz.prog 107 #[.int .i64 z] w fun e w'=>e=.returned (.string S1)∧Below w.heap.size w w'):=hid Kc;have e1:decide (Lib.itoa z=s.data.toList)=(S1.toList==s.toList):=by
   rw [ByteArray.toList_eq,ByteArray.toList_eq,hS1];exact(Bool.beq_eq_decide_eq _ _).symm
  have e2:decide (z=0)=(z==0):=(Bool.beq_eq_decide_eq _ _).symm;rw [e1,e2] at hr;have Hr:=hid hr;clear hr hS1 e1 e2 z0 z1;cases q1:(S1.toList==s.toList) with
  |false=>
   have q2:(S1.toList !=s.toList)=true:=by rw [bne,q1];rfl
   have uu:Hid (eu false s.data.toList=false):=hid (by rw [Hr.out,q1,Bool.false_and]);clear Hr;go_enter Tryz.func116,Tryz.ntmps116;go_wp2_with (first
    |(go_at_call 117;((with_reducible refine(eH.out _).mono ?_));rintro e w' ⟨rfl,hb⟩;obtain⟨g1,rfl⟩:=ay hb;clear hb)
    |(go_at_call 107;((with_reducible refine(H1.out _ ?_).mono ?_));rotate_left;rintro e w' ⟨rfl,hb⟩;obtain⟨g2,rfl⟩:=ay hb;clear hb))
   all_goals first
    |(go_ret2;exact⟨⟨_,by rw [uu.out];rfl⟩,dX⟩)
    |exact HL.out _ dX
  |true=>
   have q2:(S1.toList !=s.toList)=false:=by rw [bne,q1];rfl
   cases q3:(z==0) with
   |true=>
    exact agS
   |false=>
    exact agS
 ):p:=h
theorem aft (h:p:=by
 intro listed ca w hsz abu hb hd hs CN bV cQ;constructor
 ·intro hnone;have hall:∀i,i<ops.length→listed.getD i false=true:=by
   intro i
   induction i using Nat.strongRecOn with
   |_ i ihi=>
    intro hi;have hi':i<listed.size:=aa;cases hv:listed[i] with
    |true=>simp [hi',hv]
    |false=>
     exfalso;have:i∈Region.ready .any ops.toArray listed:=mem_ready.2 ⟨by simp [hi',hv],ops[i],by simp [hi],fun e he hb=>by
      have hlt:=E9 i ops[i] e (by simp [hi]) he hb;exact ihi e.on hlt aa⟩
     rw [hnone] at this;cases this
  exact aao ca w hb hd hs (fun j p d hp Au=>bV j p d hp Au (hall j (List.getElem?_eq_some_iff.1 hp).1)) cQ
 ·intro i hi;obtain⟨h4,o,Cy,hall⟩:=mem_ready.1 hi;have ho:ops[i]?=some o:=by simpa using Cy
  have hlt:i<ops.length:=(List.getElem?_eq_some_iff.1 ho).1;have hi':i<listed.size:=aa;have h4':listed.getD i false=false:=by simp [hi'] at h4 ⊢;exact h4
  have tE:∀j,dK ops j i→listed.getD j false=false:=fun j h=>by
   cases hs2:listed.getD j false with
   |false=>rfl
   |true=>have:=h.mem CN hs2;rw [h4'] at this;cases this
  have zJ:∀j,dK ops i j→listed.getD j false=true:=fun j h=>by
   cases h with
   |MG ho2 he hb2=>rw [ho] at ho2;cases ho2;exact hall _ he hb2
   |step ho2 he hb2 h2=>rw [ho] at ho2;cases ho2;exact h2.mem CN (hall _ he hb2)
  have ag:om ops Φ a0 o ca w:=fun t ht=>by
   refine⟨fun j p hp Au=>?_,fun hno=>cQ t hno⟩;refine bV j p t hp Au ?_;rcases Nat.lt_trichotomy j i with MH|MH|MH
   ·rcases(sO j i p o hp ho MH).2 with h|h
    ·exact zJ j h
    ·exact absurd ht ((Oper.apart_spec h).1 t Au)
   ·exact absurd ht (hown i j o p t ho hp aa Au)
   ·exact absurd ht (hown i j o p t ho hp aa Au)
  refine hop i o ca w ho hb ag _ fun v w' hb' hv=>?_
  refine ih _ _ _ (by simpa using hsz) (by have:=mK listed i h4;omega) (hb.trans (hb'.mono hb.size)) ?_ ?_ ?_ ?_ ?_
  ·rw [←hd];cases o.dst<;>rfl
  ·rw [←hs];cases o.dst<;>simp [Act.put]
  ·intro j p e hj hp he hbd;simp only at hj ⊢;by_cases e1:j=i
   ·subst e1;rw [ho] at hp;cases hp;have:=hall e he hbd;by_cases e2:e.on=j
    ·simp [e2,hi']
    ·have hne:¬j=e.on:=fun h=>e2 h.symm
     simpa [Array.getElem?_setIfInBounds,hne] using this
   ·have hne:¬i=j:=fun h=>e1 h.symm
    have hj':listed.getD j false=true:=by simpa [Array.getElem?_setIfInBounds,hne] using hj
    have:=CN j p e hj' hp he hbd;by_cases e2:e.on=i
    ·simp [e2,hi']
    ·have BF:¬i=e.on:=fun h=>e2 h.symm
     simpa [Array.getElem?_setIfInBounds,BF] using this
  ·intro j p d hp Au hj;by_cases e1:j=i
   ·subst e1;rw [ho] at hp;cases hp;have aj4:d<ca.tmps.size:=by
     have:=List.all_eq_true.1 afs o (List.mem_of_getElem? ho);simp only [Au,blt_eq] at this;rw [hs];simpa using this
    have:(ca.put o.dst v).tmps.getD d undef=v:=by simp [Act.put,Au,aj4]
    rw [this];exact hv
   ·have hne:¬i=j:=fun h=>e1 h.symm
    have hj':listed.getD j false=true:=by simpa [Array.getElem?_setIfInBounds,hne] using hj
    have h0:=bV j p d hp Au hj';have hdd:o.dst≠some d:=fun hod=>by
     rcases Nat.lt_or_gt_of_ne e1 with h|h
     ·exact(sO j i p o hp ho h).1 d Au hod
     ·exact(sO i j o p ho hp h).1 d hod Au
    have:(ca.put o.dst v).tmps.getD d undef=ca.tmps.getD d undef:=by
     cases hod:o.dst with
     |none=>rfl
     |some d'=>
      have BF:¬d'=d:=fun e=>hdd (by rw [hod,e])
      simp [Act.put,Array.getElem?_setIfInBounds,BF]
    rw [this];exact Xx j w w' _ hb' h0
  ·intro t hno;have hod:o.dst≠some t:=hno i o ho;have:(ca.put o.dst v).tmps.getD t undef=ca.tmps.getD t undef:=by
    cases iM:o.dst with
    |none=>rfl
    |some d'=>
     have BF:¬d'=t:=fun e=>hod (by rw [iM,e])
     simp [Act.put,Array.getElem?_setIfInBounds,BF]
   rw [this];exact cQ t hno
 ):p:=h
theorem agU (h:p:=by
 have Ha:=hid ha;have Hv:=hid hv;have bZ:=fc (kids.getD 0 0) (by rw [List.getD,List.getElem?_eq_getElem dB];exact List.getElem_mem dB);obtain⟨n0,hz⟩:∃z:Nat,kids.getD 0 0=(z:Int):=⟨(kids.getD 0 0).toNat,by omega⟩;rcases hf with ix|⟨bk,ok,rfl,fu,fI⟩
 ·subst ix;simp at dB
 replace fI:=fI 0 dB;rw [show kids[0]=(n0:Int) by rw [←hz,List.getD,List.getElem?_eq_getElem dB];rfl,Nat.add_zero] at fI;rw [hz] at bZ ⊢;have hN2:(N:Int)≤(ns.length:Int):=aa;have hL:(ns.length:Int)≤5000:=aa;obtain⟨L,yK⟩:∃L,L=ns.length:=⟨_,rfl⟩;unfold Fz;simp only;obtain⟨q,hq⟩:∃q,q=kids.length:=⟨_,rfl⟩;rw [←hq] at dB ⊢;have q1:(0:Int)<(q:Int):=aa;rw [←yK] at hN2 hL ⊢;have HL:=hid yK;have Aw:n0<N:=aa;clear ha hv yK fc hq hz hL0 dB bZ;go_enter Tryz.func142,Tryz.ntmps142;go_wp2;go_loop [6] (fun nv=>∃k:Nat,nv=.int .i64 k∧k<N∧Hid (∃f,k<f∧xh ns f k=iR ns n0)) (fun nv=>(intOf nv).toNat)
 case atStart=>exact⟨n0,rfl,Aw,n0+1,by omega,by unfold iR;rw [Int.toNat_natCast]⟩
 case round=>
  have NG:=trivial;exact XI
 ):p:=h
theorem agB (h:p:=by
 rw [if_neg (fun h=>hs (Option.some.inj h))] at su sw;have hs1:(((f[pos+1]).toNat:Int)==42)=false:=by
  cases e:(((f[pos+1]).toNat:Int)==42) with
  |false=>rfl
  |true=>exact absurd (UInt8.toNat_inj.1 (by have:=eq_of_beq e;show(f[pos+1]).toNat=42;omega)) hs
 have Yt:=hid su;have MV:=hid sw;obtain⟨c9,hc9⟩:∃c9,(f[pos+1]).toNat=c9:=⟨_,rfl⟩;rw [hc9] at hs1;clear su sw hs;exact agV
 ):p:=h
theorem agC (h:p:=by
 rw [dif_neg xC,if_neg ak] at su sw;have yZ:¬(pos:Int)+1<(f.size:Int):=aa;have Yt:=hid su;have MV:=hid sw;clear su sw;exact agV
 ):p:=h
theorem agW (h:p:=by
 have Tx:=trivial;exact agR
 ):p:=h
theorem afL (h:p:=by
 intro kq o ca w1 ho hb ag K hK;have QM:wr.heap.size≤w1.heap.size:=hb.size;have hfn:∀f,ca.eval (.func f)=.func (.func f) #[] #[]:=fun _=>rfl
 have hcs:∀v,ca.eval (.const v)=v:=fun _=>rfl
 rcases kq with _|_|_|_|_|_|_|_|kq
 ·cases ho;have aW:=Am.lo 3 ag rfl;exact Nv
 ·exact YK
 ·cases ho;have aW:=Am.lk 43 1 ag fun _=>rfl
  refine Am.rv rfl rfl (hK _ _ (Below.refl _ _) rfl) ?_;generalize ca.eval=ev at*;simp [go_sem,execOp,hfn,hcs,aW,hdiv]
 ·cases ho;have aW:=Am.lk 44 2 ag fun _=>rfl
  refine Am.rv rfl rfl (hK _ _ (Below.refl _ _) rfl) ?_;generalize ca.eval=ev at*;simp [go_sem,execOp,hfn,hcs,aW,XS,QE]
 ·exact YK
 ·cases ho;have aW:=Am.lk 46 4 ag fun _=>rfl
  refine Am.rv rfl rfl (hK _ _ (Below.refl _ _) rfl) ?_;generalize ca.eval=ev at*;simp [go_sem,execOp,hfn,hcs,aW,hand]
 ·cases ho;have aW:=Am.lk 47 5 ag fun _=>rfl
  refine Am.rv rfl rfl (hK _ _ (Below.refl _ _) rfl) ?_;generalize ca.eval=ev at*;simp [go_sem,execOp,hfn,hcs,aW,Ks,nh]
 ·cases ho;have aW:=Am.lk 45 3 ag fun _=>rfl
  have mQ:=Am.lk 48 6 ag fun _=>rfl
  refine Am.bh rfl rfl (Am.ic (v:=.slice (some ⟨w1.heap.size,0,none⟩) 4 4) (w':=w1.alloc (.cells #[.int .u8 92,.int .u8 120,.int .u8 (((⟨#[48,49,50,51,52,53,54,55,56,57,97,98,99,100,101,102]⟩:ByteArray)[q]'q1).toNat:Int),.int .u8 (((⟨#[48,49,50,51,52,53,54,55,56,57,97,98,99,100,101,102]⟩:ByteArray)[r]'q2).toNat:Int)] 5)) ?_ (hK _ _ ((Below.refl _ _).alloc (Nat.le_refl _) _) ⟨w1.heap.size,rfl,heap_alloc_new _ _,QM⟩));generalize ca.eval=ev at*;simp [go_sem,execOp,hfn,hcs,aW,mQ]
 ·simp at ho
 ):p:=h
theorem SX (h:p:=by
 intro kq o ca w1 ho hb ag K hK;have hc2:w1.cell? ⟨W.heap.size+1,2,none⟩=some (.slice kp j aG):=(hb.cell (p:=⟨_,2,none⟩) ak).trans (by simp [go_sem]);have hc0:w1.cell? ⟨W.heap.size+1,0,none⟩=some (.int .i64 k):=(hb.cell (p:=⟨_,0,none⟩) ak).trans (by simp [go_sem]);have hcf:w1.cell? ⟨W.heap.size,k,none⟩=some (str fo):=(hb.cell (p:=⟨_,k,none⟩) cr).trans (by simp [go_sem,hfk]);have aj5:(0:Int)≤(k:Int):=aa;have hfn:∀f,ca.eval (.func f)=.func (.func f) #[] #[]:=fun _=>rfl
 have hcs:∀v,ca.eval (.const v)=v:=fun _=>rfl
 rcases kq with _|_|_|_|_|_|_|kq
 ·cases ho;have aW:=Am.lo 0 ag rfl;exact Nv
 ·exact YL
 ·cases ho;have aW:=Am.lk 56 1 ag fun _=>rfl
  refine Am.rv rfl rfl (hK _ _ (Below.refl _ _) rfl) ?_;generalize ca.eval=ev at*;simp [go_sem,execOp,hfn,hcs,aW,hc2]
 ·exact YL
 ·cases ho;have aW:=Am.lk 58 3 ag fun _=>rfl
  exact YH
 ·cases ho;have aW:=Am.lo 7 ag rfl;have mQ:=Am.lk 59 4 ag fun _=>rfl
  refine Am.rv rfl rfl (hK _ _ (Below.refl _ _) rfl) ?_;generalize ca.eval=ev at*;simp [go_sem,execOp,hfn,hcs,aW,mQ,abk,aj5]
 ·cases ho;have aW:=Am.lk 60 5 ag fun _=>rfl
  refine Am.rv rfl rfl (hK _ _ (Below.refl _ _) rfl) ?_;generalize ca.eval=ev at*;simp [go_sem,execOp,hfn,hcs,aW,hcf]
 ·simp at ho
 ):p:=h
theorem YM (h:p:=by
 have aj:=hsz;rw [qC] at aj;simp only [ByteArray.size_append] at aj;have gy:=hid qC;have cR:=hid (cW H0 xt aa);clear HR qC hsz;go_enter Tryz.func199,Tryz.ntmps199;go_wp2;go_region;rw [←jb.out];clear jb H0;go_wp2_with (go_at_call 44;with_reducible refine(cR.out).mono ?_);rintro e w1 ⟨rfl,h1,aR⟩;have cm:=hid (cI.out.trans aR);have fT:=hid (aR.2 _ _ _ jV.out ai Ty);have dJ:=hid (aR.2 _ _ _ dW.out ai Tz);have vp:w1.cell? ⟨w.heap.size,1,none⟩=some (.string xt):=kT;have cK1:w1.cell? ⟨w.heap.size,2,none⟩=some (.slice (some ⟨aq,aU,none⟩) xl xc):=kT;have lF:w1.cell? ⟨w.heap.size+1,0,none⟩=some (.int .i64 yk):=cJ;have lG:w1.cell? ⟨w.heap.size+1,1,none⟩=some (.string yt):=cJ;have TA:w.heap.size<w1.heap.size:=(Array.getElem?_eq_some_iff.1 fT.out).1;have lH:w.heap.size+1<w1.heap.size:=(Array.getElem?_eq_some_iff.1 dJ.out).1;have cq1:=(h1.below.cell (p:=⟨aq,_,none⟩) LK.out.1).trans LK.out.2;have lq1:aq<w1.heap.size:=Nat.lt_of_lt_of_le LK.out.1 h1.below.size;have dG:=hid (dm.out _ w1 h1 vq);clear h1 aR cR cI jV dW;go_wp2_with (go_at_call 238;with_reducible refine(dG.out).mono ?_);rintro e w2 ⟨rfl,h2,hk2⟩;have eD:=hid (cm.out.trans hk2);have kK:=hid (hk2.2 _ _ _ fT.out ai Ty);have fW:=hid (hk2.2 _ _ _ dJ.out ai Tz);have HF:=hid (And.intro h2 eD.out);clear h2 hk2 dG eD;exact NH
 ):p:=h
theorem FK (h:p:=by
 intro s hs kp nk kc bE w hl;show Calls _ _ _ _ fun e w'=>e=.returned (.bool (cY s.data.toList && decide (bn s.data.toList<0)))∧Below w.heap.size w w'
 have H1:Hid (∀w',Below w.heap.size w w'→Calls Tryz.prog 134 #[.string s] w' fun e w2=>e=.returned (.bool (cY s.data.toList))∧Below w'.heap.size w' w2):=hid fun w' h=>uw s aa w' (hl.later h)
 have H2:Hid (∀w',Below w.heap.size w w'→Calls Tryz.prog 181 #[.string s] w' fun e w2=>e=.returned (.int .i64 (bn s.data.toList))∧Below w'.heap.size w' w2):=hid fun w' h=>by
  have:=vr s w'
  rwa [ByteArray.toList_eq] at this
 clear hl;generalize cY s.data.toList=x at*;generalize bn s.data.toList=n at*;cases x
 all_goals
  go_enter Tryz.func141,Tryz.ntmps141;go_wp2_with (first
   |(go_at_call 134;((with_reducible refine(H1.out _ ?_).mono ?_));rotate_left;rintro e w' ⟨rfl,hb⟩;obtain⟨g1,rfl⟩:=ay hb;clear hb)
   |(go_at_call 181;((with_reducible refine(H2.out _ ?_).mono ?_));rotate_left;rintro e w' ⟨rfl,hb⟩;obtain⟨g1,rfl⟩:=ay hb;clear hb))
  all_goals first
   |(go_ret;exact⟨rfl,cN⟩)
   |exact by repeat (first|exact Below.refl _ _|refine bG ?_ _|refine bI ?_ _ _|refine bA ?_ _|refine bD ?_|refine bN ?_ _)
 ):p:=h
theorem FL (h:p:=by
 intro s hs kp nk kc bE w hl;show Calls _ _ _ _ fun e w'=>e=.returned (.bool (cY s.data.toList && decide (bn s.data.toList<0)))∧Below w.heap.size w w'
 have H1:Hid (∀w',Below w.heap.size w w'→Calls Tryz.prog 79 #[.string s] w' fun e w2=>e=.returned (.bool (cY s.data.toList))∧Below w'.heap.size w' w2):=hid fun w' h=>xP s aa w'
 have H2:Hid (∀w',Below w.heap.size w w'→Calls Tryz.prog 114 #[.string s] w' fun e w2=>e=.returned (.int .i64 (bn s.data.toList))∧Below w'.heap.size w' w2):=hid fun w' h=>by
  have:=vt s w'
  rwa [ByteArray.toList_eq] at this
 clear hl;generalize cY s.data.toList=x at*;generalize bn s.data.toList=n at*;cases x
 all_goals
  go_enter Tryz.func65,Tryz.ntmps65;go_wp2_with (first
   |(go_at_call 79;((with_reducible refine(H1.out _ ?_).mono ?_));rotate_left;rintro e w' ⟨rfl,hb⟩;obtain⟨g1,rfl⟩:=ay hb;clear hb)
   |(go_at_call 114;((with_reducible refine(H2.out _ ?_).mono ?_));rotate_left;rintro e w' ⟨rfl,hb⟩;obtain⟨g1,rfl⟩:=ay hb;clear hb))
  all_goals first
   |(go_ret;exact⟨rfl,cN⟩)
   |exact by repeat (first|exact Below.refl _ _|refine bG ?_ _|refine bI ?_ _ _|refine bA ?_ _|refine bD ?_|refine bN ?_ _)
 ):p:=h
theorem YN (h:p:=by
 have w1:(i:Int)<(A.size:Int):=aa;have hpl:i<A.data.toList.length:=by rw [HAl.out];exact gY
 have hw:jN A.data.toList O.data.toList B.data.toList more i=A[i]:=by
  unfold jN;rw [if_pos hpl,List.getD,List.getElem?_eq_getElem hpl];exact BK
 have hl:(A[i]).toNat∈letters:=D2.out _ (.inl (by
  have:A[i]=A.data.toList[i]:=gX;rw [this];exact List.getElem_mem hpl))
 rw [hw] at hd;obtain⟨cc,hcc⟩:∃cc,(A[i]).toNat=cc:=⟨_,rfl⟩;exact abP
 ):p:=h
theorem Xp (h:p:=by
 obtain⟨_,o,ho,hall⟩:=mem_ready.1 hn;rw [CL] at ho;cases ho;have hc2:fY (pre.push p).toList (fun i=>decide (i<pre.size) && l.getD i false):=fun j o e hj ho he hb=>by
  simp only [Bool.and_eq_true,decide_eq_true_eq] at hj;have Cy:pre[j]?=some o:=by
   have:(pre.push p)[j]?=some o:=by rw [←ho];simp only [Array.getElem?_toList]
   rw [wT j hj.1] at this;exact this
  have h1:=(AE j o Cy).1 e he hb;simp only [Bool.and_eq_true,decide_eq_true_eq];exact⟨by omega,hc j o e hj.2 (by simpa using Cy) he hb⟩
 have hS:∀e∈p.after,Region.binds .any e=true→(decide (e.on<pre.size) && l.getD e.on false)=true:=fun e he hb=>by
  have h1:=hp e he hb;have h2:=hall e he hb;rw [wS l false e.on aa] at h2;simp [h1,h2]
 have hA:=AG i hi;have key:(decide (i<pre.size) && l.getD i false)=true:=by
  cases hA with
  |MG ho he hb=>
   have Cy:=ho;rw [Array.getElem?_toList] at Cy;rw [CL] at Cy;cases Cy;exact hS _ he hb
  |step ho he hb h2=>
   have Cy:=ho;rw [Array.getElem?_toList] at Cy;rw [CL] at Cy;cases Cy;exact h2.mem hc2 (hS _ he hb)
 simp only [Bool.and_eq_true,decide_eq_true_eq] at key;exact key.2
 ):p:=h
theorem YO (h:p:=by
 cases R with
 |true=>
  go_enter Tryz.func142,Tryz.ntmps142;go_wp2_with (first
   |(go_at_call 187;((with_reducible refine(Hun.out _ cN).mono ?_));rintro e w' ⟨rfl,hb⟩;obtain⟨g1,rfl⟩:=ay hb;clear hb)
   |(go_at_call 139;((with_reducible refine(dU _).mono ?_));rintro e w' ⟨rfl,hw⟩;rw [hw];clear hw w'))
  exact YP
 |false=>
  go_enter Tryz.func142,Tryz.ntmps142;go_wp2_with (first
   |(go_at_call 187;((with_reducible refine(Hun.out _ cN).mono ?_));rintro e w' ⟨rfl,hb⟩;obtain⟨g1,rfl⟩:=ay hb;clear hb)
   |(go_at_call 139;((with_reducible refine(gW _).mono ?_));rintro e w' ⟨rfl,hw⟩;rw [hw];clear hw w'))
  exact YQ
 ):p:=h
theorem YR (h:p:=by
 have e4:(0:Int)≤((i - A.size - more:Nat):Int):=aa;have e5:((i - A.size - more:Nat):Int)<(B.size:Int):=aa;have e6:(A.size:Int)≤(i:Int):=aa;have e7:(A.size:Int)+(more:Int)≤(i:Int):=aa;generalize i - A.size - more=bi at*;obtain⟨cc,hcc⟩:∃cc,(B[bi]).toNat=cc:=⟨_,rfl⟩;exact abP
 ):p:=h
theorem YS (h:p:=by
 have Ih:w3.cell? ⟨w.heap.size,1,none⟩=some (.string xt):=ey;have Ii:w3.cell? ⟨w.heap.size,2,none⟩=some (.slice (some ⟨aq,aU,none⟩) xl xc):=ey;have Jf:w.heap.size<w3.heap.size:=(Array.getElem?_eq_some_iff.1 lI.out).1;have vu:=(h3.below.cell (p:=⟨aq,_,none⟩) LK.out.1).trans ij.out;have FM:aq<w3.heap.size:=Nat.lt_of_lt_of_le LK.out.1 h3.below.size;have vv:=hid (cW h3 ⟨#[10]⟩ bg);clear h3 hk3 eI eD fW sW tG tH lC wq Ij;exact abQ
 ):p:=h
theorem YT (h:p:=by
 have tG:w2.cell? ⟨w.heap.size+1,1,none⟩=some (.string yt):=cg;have lX2:w.heap.size<w2.heap.size:=(Array.getElem?_eq_some_iff.1 kK.out).1;have tH:w.heap.size+1<w2.heap.size:=(Array.getElem?_eq_some_iff.1 fW.out).1;have cq2:=(h2.below.cell (p:=⟨aq,_,none⟩) LK.out.1).trans LK.out.2;have lq2:aq<w2.heap.size:=Nat.lt_of_lt_of_le LK.out.1 h2.below.size;have eI:=hid (dm.out _ w2 h2 vq);clear h2 hk2 dG cm fT dJ;go_wp2_with (go_at_call 238;with_reducible refine(eI.out).mono ?_);rintro e w3 ⟨rfl,h3,hk3⟩;have lJ:=hid (eD.out.trans hk3);have CE:=hid (hk3.2 _ _ _ kK.out ai Ty);have lI:=hid (hk3.2 _ _ _ fW.out ai Tz);have HF:=hid (And.intro h3 lJ.out);clear h3 hk3 eI lJ;exact NH
 ):p:=h
theorem Yr (h:p:=by
 have h1:(s.toList==[45,57,50,50,51,51,55,50,48,51,54,56,53,52,55,55,53,56,48,56])=true:=by
  rw [ByteArray.toList_eq,h0];exact beq_self_eq_true nI
 have Hr:Hid (dM s.data.toList=true):=hid (by rw [Hm.out,if_pos h0]);clear Hm h0;go_enter Tryz.func185,Tryz.ntmps185;go_wp2_with (first
  |(go_at_call 229;((with_reducible refine(xM.out _).mono ?_));rintro e w' ⟨rfl,rfl⟩)
  |(go_at_call 183;((with_reducible refine(eH.out _).mono ?_));rintro e w' ⟨rfl,hb⟩;obtain⟨g1,rfl⟩:=ay hb;clear hb)
  |(go_at_call 184;refine(jY _ aa aa _ (Hl.out.later dX)).mono ?_;rintro e w' ⟨rfl,hb⟩;obtain⟨g2,rfl⟩:=ay hb;clear hb))
 exact YU
 ):p:=h
theorem NI (h:p:=by
 intro s hs kp nk kc bE w hl;show Calls _ _ _ _ fun e w'=>e=.returned (.bool (cY s.data.toList))∧Below w.heap.size w w'
 have H1:Hid (∀w',Below w.heap.size w w'→Calls Tryz.prog 134 #[.string s] w' fun e w2=>e=.returned (.bool (cY s.data.toList))∧Below w'.heap.size w' w2):=hid fun w' h=>uw s aa w' (hl.later h)
 clear hl;generalize cY s.data.toList=x at*;go_enter Tryz.func141,Tryz.ntmps141;go_wp2_with (first
  |(go_at_call 134;((with_reducible refine(H1.out _ ?_).mono ?_));rotate_left;rintro e w' ⟨rfl,hb⟩;obtain⟨g1,rfl⟩:=ay hb;clear hb))
 all_goals first
  |(go_ret;exact⟨rfl,cN⟩)
  |exact by repeat (first|exact Below.refl _ _|refine bG ?_ _|refine bI ?_ _ _|refine bA ?_ _|refine bD ?_|refine bN ?_ _)
 ):p:=h
theorem YV (h:p:=by
 have hz3:(⟨#[58,32]⟩:ByteArray).size=2:=rfl;by_cases nR:0<i
 ·have Jc:(0:Int)<(i:Int):=by omega
  skip
  rw [if_pos nR] at hz1;simp only [ByteArray.size_append,hz2,hz3] at hz1;go_wp2_with (first|(go_at_call 201;(with_reducible refine(TB.out _ (bG ji.out _)).mono ?_);rintro e w' ⟨rfl,hb1⟩;obtain⟨G,rfl⟩:=ay hb1;clear hb1))
  all_goals
   refine⟨⟨i+1,_,by omega, ?_,by go_num,rfl⟩,by simp [intOf];omega⟩;rw [sR.out,if_pos nR]
 ·have Jc:(i:Int)≤0:=by omega
  skip
  rw [if_neg nR] at hz1;simp only [ByteArray.size_append,hz2,hz3] at hz1;go_wp2_with (first|(go_at_call 201;(with_reducible refine(TB.out _ (bG ji.out _)).mono ?_);rintro e w' ⟨rfl,hb1⟩;obtain⟨G,rfl⟩:=ay hb1;clear hb1))
  all_goals
   refine⟨⟨i+1,_,by omega, ?_,by go_num,rfl⟩,by simp [intOf];omega⟩;rw [sR.out,if_neg nR]
 ):p:=h
theorem NJ (h:p:=by
 intro s hs kp nk kc bE w hl;show Calls _ _ _ _ fun e w'=>e=.returned (.bool (cY s.data.toList))∧Below w.heap.size w w'
 have H1:Hid (∀w',Below w.heap.size w w'→Calls Tryz.prog 79 #[.string s] w' fun e w2=>e=.returned (.bool (cY s.data.toList))∧Below w'.heap.size w' w2):=hid fun w' h=>xP s aa w'
 clear hl;generalize cY s.data.toList=x at*;go_enter Tryz.func65,Tryz.ntmps65;go_wp2_with (first
  |(go_at_call 79;((with_reducible refine(H1.out _ ?_).mono ?_));rotate_left;rintro e w' ⟨rfl,hb⟩;obtain⟨g1,rfl⟩:=ay hb;clear hb))
 all_goals first
  |(go_ret;exact⟨rfl,cN⟩)
  |exact by repeat (first|exact Below.refl _ _|refine bG ?_ _|refine bI ?_ _ _|refine bA ?_ _|refine bD ?_|refine bN ?_ _)
 ):p:=h
theorem fP (h:p:=by
 intro s hs kp nk kc bE w hl;show Calls _ _ _ _ fun e w'=>e=.returned (.bool s.data.toList.isEmpty)∧Below w.heap.size w w'
 rw [←ByteArray.toList_eq];clear hl;cases h:s.toList.isEmpty
 ·have h2:(s.toList==[])=false:=by cases e:s.toList with
   |nil=>rw [e] at h;cases h
   |cons x l=>rfl
  exact YW
 ·have h2:(s.toList==[])=true:=by cases e:s.toList with
   |nil=>rfl
   |cons x l=>rw [e] at h;cases h
  exact YW
 ):p:=h
theorem X9 (h:p:=by
 obtain⟨Av,hF2,qC,yJ⟩:=chain h3 jK gY lU hx2;have ha2:=ha1.mono hx2.keep;cases en with
 |ret v=>
  cases e2 with
  |panicked c=>exact hen.elim
  |outgrown=>exact hen.elim
  |returned v'=>
  obtain⟨a1,s3,h5,h6⟩:=ax h4;obtain⟨rfl,ha3⟩:=ha2.put hen h5;refine iJ hX ki hc rest a1 _ e a' s' h6 E2 _ w2 _ Q ρ' ((hρ.mono hx1.keep).mono hx2.keep) qI Av hF2 ha3 fun E' ce lT w' Mg CC ha' tu=>hQ E' ce lT w' (lD E' (qC E' Mg)) CC ha' (by rw [yJ,nh] at tu;exact tu)
 |panic v=>
  obtain⟨h5,rfl⟩:=pure_run h4;cases h5;cases e2 with
  |panicked c=>
   have A4:merge I s' (merge I s1 g)=merge I s' g:=nh;exact hQ E2 (.panic c) ca w2 (lD E2 hx2) hen ha2 (by rw [A4] at qI;exact qI)
  |returned v'=>exact hen.elim
  |outgrown=>exact hen.elim
 ):p:=h
theorem fQ (h:p:=by
 intro s hs kp nk kc bE w hl;show Calls _ _ _ _ fun e w'=>e=.returned (.bool s.data.toList.isEmpty)∧Below w.heap.size w w'
 rw [←ByteArray.toList_eq];clear hl;cases h:s.toList.isEmpty
 ·have h2:(s.toList==[])=false:=by cases e:s.toList with
   |nil=>rw [e] at h;cases h
   |cons x l=>rfl
  exact YX
 ·have h2:(s.toList==[])=true:=by cases e:s.toList with
   |nil=>rfl
   |cons x l=>rw [e] at h;cases h
  exact YX
 ):p:=h
theorem Xs (h:p:=by
 have hall:∀i,i<pre.size→l.getD i false=true:=by
  intro i
  induction i using Nat.strongRecOn with
  |_ i ihi=>
   intro hi;have hi':i<l.size:=aa;cases hv:l[i] with
   |true=>simp [Array.getD_eq_getD_getElem?,hi',hv]
   |false=>
    exfalso;have:i∈Region.ready .any pre l:=mem_ready.2 ⟨by simp [Array.getD_eq_getD_getElem?,hi',hv],pre[i],by simp [hi],fun e he hb=>by
     have hlt:=(AE i pre[i] (by simp [hi])).1 e he hb;exact ihi e.on hlt aa⟩
    rw [←rdy l hl i hi,h] at this;cases this
 have:pre.size∈Region.ready .any (pre.push p) (l.push false):=mem_ready.2 ⟨by rw [←hl];exact afq l,p,CL,fun e he hb=>by
  have:=hp e he hb;rw [wS l false e.on aa];exact hall e.on this⟩
 rw [h] at this;cases this
 ):p:=h
theorem Xy (h:p:=by
 intro listed ca w hsz abu hb hd hs CN bV cQ;have hall:∀i,i<ops.length→listed.getD i false=true:=fun i hi=>by
  exact Yp
 refine⟨?_,aao ca w hb hd hs (fun j p d hp Au=>bV j p d hp Au (hall j (List.getElem?_eq_some_iff.1 hp).1)) cQ⟩;apply List.eq_nil_iff_forall_not_mem.2;intro i hi;obtain⟨h4,o,ho,_⟩:=mem_ready.1 hi;have hlt:i<ops.length:=by have:=(Array.getElem?_eq_some_iff.1 ho).1;simpa using this
 exact Yq
 ):p:=h
theorem YY (h:p:=by
 have Jf:w.heap.size<w3.heap.size:=(Array.getElem?_eq_some_iff.1 lI.out).1;have vu:=(h3.below.cell (p:=⟨aq,_,none⟩) LK.out.1).trans ij.out;have FM:aq<w3.heap.size:=Nat.lt_of_lt_of_le LK.out.1 h3.below.size;have vv:=hid (cW h3 ⟨#[41]⟩ bg);clear h3 hk3 eI eD fW sW tG tH lC wq;exact abQ
 ):p:=h
theorem XL (h:p:=by
 have hh:=decode_high s pos hlt aa;have JL:=decode_le s pos;have nx:=tv (P:=Tryz.prog) s pos (Utf8.decode s pos).1 (Utf8.decode s pos).2 hlt rfl;rw [if_pos (by have:=xq (b:=(s[pos]).toNat) aa;omega)] at hd;generalize (Utf8.decode s pos).1=b at*;generalize (Utf8.decode s pos).2=wd at*;have k1:=hh.1;have H:=hid hd;have Hm:=hid hm;clear hd hm hR hb hh;go_wp2_with (first
  |(go_at_call 228;refine(uk b aa aa _).mono ?_;rintro e w' ⟨rfl,hb⟩;obtain⟨g2,rfl⟩:=ay hb;clear hb))
 go_ret2;exact⟨by rw [H.out];rfl,dX⟩
 ):p:=h
theorem YZ (h:p:=by
 subst dV;simp only [List.setIfInBounds_toArray,List.set_cons_succ,List.set_cons_zero];have hO1:=HO.out.later hb;have hO2:=hid hO1;clear hb hd hs bV cQ h42 h49 hO1;simp only [Am.jJ];refine yT (t:=⟨#[92,120,(⟨#[48,49,50,51,52,53,54,55,56,57,97,98,99,100,101,102]⟩:ByteArray)[q]'q1,(⟨#[48,49,50,51,52,53,54,55,56,57,97,98,99,100,101,102]⟩:ByteArray)[r]'q2]⟩) rfl _ _ rfl rfl hO2.out hU rfl rfl (by show(tY s i).size+4≤_;omega) ?_;intro v' w' Rn;clear hU;go_wp2;simp only [Am.jJ];exact Y0
 ):p:=h
theorem Y1 (h:p:=by
 go_enter Tryz.func198,Tryz.ntmps198;go_wp2_with (go_at_call 237;refine(hq.out).mono ?_);rintro e w1 ⟨rfl,hb1⟩;have h1:=HW.out.later hb1;have dG:=hid (hB.out w1 h1);have cm:=hid (aC (B:=B) hb1);have cw:=h1.cell0;have lw:=h1.size;have cz:=(hb1.cell (p:=⟨b,_,none⟩) hlt).trans c0;have lz:b<w1.heap.size:=Nat.lt_of_lt_of_le hlt hb1.size;clear hb1 hq hB HW h1 hlt c0;exact Y2
 ):p:=h
theorem Xv (h:p:=by
 have akd:∀k,(l.setIfInBounds i true).getD k false=(l.getD k false||decide (k=i)):=fun k=>by
  by_cases hk:k=i
  ·subst hk;simp [Array.getD_eq_getD_getElem?,lq]
  ·have hk':¬i=k:=fun h=>hk h.symm
   simp [Array.getD_eq_getD_getElem?,Array.getElem?_setIfInBounds,hk,hk']
 simp only at hj ⊢;rw [akd] at hj ⊢;rw [Bool.or_eq_true,decide_eq_true_eq] at hj;rcases hj with hj|hj
 ·have h5:l.getD e.on false=true:=hc j o' e hj Cy he hb;rw [h5];rfl
 ·subst hj;have:pre[j]?=some o':=by simpa using Cy
  rw [ho] at this;cases this;rw [Jv e he hb];rfl
 ):p:=h
theorem Xu (h:p:=by
 apply Array.ext_getElem?;intro k;by_cases hk:k=i
 ·subst hk;have e1:¬k=l.size:=aa;have hR:((l.setIfInBounds k true).push false)[k]?=some true:=by
   rw [Array.getElem?_push,if_neg (by rw [Array.size_setIfInBounds];exact e1)];simp [lq]
  have hL:((l.push false).setIfInBounds k true)[k]?=some true:=by
   have h9:k<(l.push false).size:=by rw [Array.size_push];omega
   rw [Array.getElem?_setIfInBounds,if_pos rfl,if_pos h9]
  rw [hR,hL]
 ·have hk':¬i=k:=fun h=>hk h.symm
  simp [Array.getElem?_setIfInBounds,Array.getElem?_push,hk']
 ):p:=h
theorem Y3 (h:p:=by
 have Az:=Hkm.out m;rw [if_neg (by have:=Ik.out;omega)] at Az;have TC:=hid Az;clear Az Hkm;by_cases hu0:u<0
 ·clear hu;exact Y4
 ·have XF:(k:Int)≤u:=by omega
  have hu2:0≤u:=aa;clear hu hu0;exact Y4
 ):p:=h
theorem NK (h:p:=by
 have dH:w.heap.size≠B:=aa;have hP:=dm.out _ _ h0 bg;have cR:=hid hP;clear bQ h0 hP H;go_enter Tryz.func148,Tryz.ntmps148;go_wp2_with (go_at_call 200;with_reducible refine(cR.out).mono ?_);exact agX
 ):p:=h
theorem YJ (h:p:=by
 have Hb:=hid fI;clear fI Bf;go_wp2_with (go_at_call 93;((with_reducible refine(L4.out _ (by repeat (first|exact Below.refl _ _|exact QN.out|exact jr QN.out aa|refine bG ?_ _|refine bI ?_ _ _|refine bA ?_ _|refine bD ?_|refine bN ?_ _))).mono ?_));rintro e w' ⟨rfl,hb⟩;obtain⟨g4,rfl⟩:=ay hb;clear hb);exact Y5
 ):p:=h
theorem NA (h:p:=by
 have Hc:=hid hc;have BF:f.toList.isEmpty=false:=by cases e:f.toList with
  |nil=>rw [e] at hne;cases hne
  |cons x l=>rfl
 clear hc;go_enter Tryz.func140,Tryz.ntmps140;go_wp2_with (first
  |(go_at_call 139;((with_reducible refine(dU _).mono ?_));rintro e w' ⟨rfl,hw⟩;rw [hw];clear hw w')
  |(go_at_call 139;((with_reducible refine(gW _).mono ?_));rintro e w' ⟨rfl,hw⟩;rw [hw];clear hw w')
  |(go_at_call 179;refine(Hc.out _).mono ?_;rintro e w' ⟨rfl,hw⟩;rw [hw];clear hw w'))
 exact⟨rfl,rfl,Below.refl _ _⟩
 ):p:=h
theorem NL (h:p:=by
 cases ho;have aW:=Am.lk 199 13 ag fun _=>rfl
 have mQ:=Am.lk 203 17 ag fun _=>rfl
 have Jg:=Am.lk 206 20 ag fun _=>rfl
 have e4_:=Am.lk 207 21 ag fun _=>rfl
 refine Am.bh rfl rfl (Am.cH (w':=w1) (f:=204) (args:=#[.slice (some ⟨b,o,none⟩) L c,.int .i64 k1,.int .i64 (q+1),.int .i64 ((d:Int))]) ?_ ((kj.out w1 Il).mono ?_))
 ·exact Y6
 ·exact sB
 ):p:=h
theorem NM (h:p:=by
 cases ho;have aW:=Am.lk 186 0 ag fun _=>rfl
 have mQ:=Am.lk 190 4 ag fun _=>rfl
 have Jg:=Am.lk 192 6 ag fun _=>rfl
 have e4_:=Am.lk 193 7 ag fun _=>rfl
 refine Am.bh rfl rfl (Am.cH (w':=w1) (f:=204) (args:=#[.slice (some ⟨b,o,none⟩) L c,.int .i64 k0,.int .i64 q,.int .i64 ((d:Int))]) ?_ ((dm.out w1 Il).mono ?_))
 ·exact Y6
 ·exact sB
 ):p:=h
theorem Jl (h:p:=by
 obtain⟨b,o,hp,hlt,c0,c1,c2,c3⟩:=bL hN hW.below hm;have hl:(m:Int)<(ns.length:Int):=aa;have hBl:=hW.size;have hcw:=hW.cell0;clear hW hN ht;generalize ns[m]=x at*;obtain⟨xk,xt,xp,xc,aK,aP⟩:=x;simp only at c0 c1 c2 c3 hk ⊢;subst hp;clear hm;generalize ns.length=L at*;generalize aK.length=xl at*;subst hk;exact Xk
 ):p:=h
theorem Xr (h:p:=by
 apply List.eq_nil_iff_forall_not_mem.2;intro i hi;obtain⟨h1,o,ho,_⟩:=mem_ready.1 hi;have hlt:=(Array.getElem?_eq_some_iff.1 ho).1;simp at hlt;by_cases e:i=pre.size
 ·subst e;simp [Array.getD_eq_getD_getElem?,hl] at h1
 ·have h2:=hall i aa;have hi':i<l.size:=aa;have e':¬pre.size=i:=fun h=>e h.symm
  have e2:¬i=l.size:=aa;simp [Array.getD_eq_getD_getElem?,Array.getElem?_setIfInBounds,Array.getElem?_push,e',e2,hi'] at h1 h2;rw [h2] at h1;cases h1
 ):p:=h
theorem Yu (h:p:=by
 obtain rfl:j=sp:=aa;have hJ2:=hJ.out;rw [show j - j=0 by omega,List.take_zero,List.all_nil] at hJ2;have hRu:=Yt.out;rw [←hJ2,Bool.true_and,List.drop_drop] at hRu;have HRu:=hid hRu;have a3:¬((j:Nat):Int)<((j:Nat):Int):=aa;clear hJ2 hJ hRu;go_wp2;refine⟨⟨pos+1,bE+j,g2,by simp,rfl,by omega,by have:=MV.out;omega,HRu.out.symm,by have:=MV.out;omega⟩, ?_⟩;exact Fx
 ):p:=h
theorem X6 (h:p:=by
 have Hb:=hid fI;clear fI Bf;go_wp2_with (go_at_call 62;((with_reducible refine(L4.out _ cN).mono ?_));rintro e w' ⟨rfl,hb⟩;obtain⟨g4,rfl⟩:=ay hb;clear hb);exact Y7
 ):p:=h
theorem Y8 (h:p:=by
 clear HR;go_enter Tryz.func204,Tryz.ntmps204;go_wp2_with (first
  |(go_at_call 150;refine(hC.out).mono ?_;rintro e w' ⟨rfl,hb1⟩;obtain⟨G,rfl⟩:=ay hb1;clear hb1)
  |(go_at_call 205;refine(hq.out _).mono ?_;rintro e w' ⟨rfl,hb1⟩;obtain⟨G2,rfl⟩:=ay hb1;clear hb1))
 exact Y9
 ):p:=h
theorem Za (h:p:=by
 clear HR;go_enter Tryz.func202,Tryz.ntmps202;go_wp2_with (first
  |(go_at_call 150;refine(hC.out).mono ?_;rintro e w' ⟨rfl,hb1⟩;obtain⟨G,rfl⟩:=ay hb1;clear hb1)
  |(go_at_call 239;refine(hq.out _).mono ?_;rintro e w' ⟨rfl,hb1⟩;obtain⟨G2,rfl⟩:=ay hb1;clear hb1))
 exact Y9
 ):p:=h
theorem xQ (h:p:=by
 have dV:=Am.dy hd hs cQ;simp only [List.foldl_cons,List.foldl_nil,h6] at dV;obtain⟨yf,pW⟩:∃y:Nat→Value,∀t,ca.tmps.getD t undef=y t:=⟨_,fun _=>rfl⟩;simp only [pW] at dV;clear pW;subst dV;simp only [List.setIfInBounds_toArray,List.set_cons_succ,List.set_cons_zero];clear hd hs bV cQ h6;have HBo:=hid (dh.out.trans (hb.mono dh.out.size));clear hb;go_wp2;go_ret;exact⟨by rw [HX.out];rfl,HBo.out⟩
 ):p:=h
theorem XV (h:p:=by
 have q1':(9:Int)<(eZ b:Int):=aa;have hd:=H.out;rw [if_pos (.inl q1)] at hd;have H2:=hid hd;clear hd;go_wp2_with (first
  |(go_at_call 171;((with_reducible refine(gL b fE _).mono ?_));rintro e w' ⟨rfl,hb⟩;obtain⟨g2,rfl⟩:=ay hb;clear hb))
 go_ret2;exact⟨by rw [H2.out];rfl,xz⟩
 ):p:=h
theorem Zb (h:p:=by
 clear h2 hk2 dG cm dJ lF lG lH;exact agY
 ):p:=h
theorem Yk (h:p:=by
 refine⟨fun r hr=>?_, ?_⟩
 ·rcases List.mem_cons.1 hr with rfl|hr
  ·rw [fL];intro x hx;rcases List.mem_cons.1 hx with rfl|hx
   ·simp
   ·have:=sj x hx;have:¬(x.i<i):=aa;simp [this]
  ·rw [ih.1 r hr];have hlt:i<r.i:=by have:=sj r hr;omega
   simp only [dZ,hlt,decide_true,Bool.true_and,hbase]
 ·rw [ih.2];simp only [dZ,hbase]
 ):p:=h
theorem Zc (h:p:=by
 have hd:=hR.out;rw [List.drop_eq_nil_of_le (by rw [Cz.out];omega)] at hd;have Hd:=hid (show gI A.data.toList O.data.toList B.data.toList more ks 0=true from hd.symm);have i1:¬(i:Int)<(m:Int):=aa;clear hd hR;go_wp2;go_ret;exact⟨by rw [Hd.out];rfl,cN⟩
 ):p:=h
theorem Zd (h:p:=by
 go_wp2_with (go_at_call 237;refine(hq.out).mono ?_);rintro e w1 ⟨rfl,hb1⟩;have dG:=hid (hB.out w1 (HW.out.later hb1));have cm:=hid (aC (B:=B) hb1);clear hb1 hq hB HW;exact Y2
 ):p:=h
theorem Xo (h:p:=by
 rw [mem_ready,mem_ready,wT i hi,wS l true i aa];constructor
 ·rintro⟨h1,o,h2,h3⟩;refine⟨h1,o,h2,fun e he hb=>?_⟩;have:=(AE i o h2).1 e he hb;rw [←wS l false e.on aa];exact h3 e he hb
 ·rintro⟨h1,o,h2,h3⟩;refine⟨h1,o,h2,fun e he hb=>?_⟩;have:=(AE i o h2).1 e he hb;rw [wS l false e.on aa];exact h3 e he hb
 ):p:=h
theorem Ze (h:p:=by
 exact abQ
 ):p:=h
theorem Zf (h:p:=by
 exact agY
 ):p:=h
theorem Zg (h:p:=by
 go_wp2_with (go_at_call 44;with_reducible refine(TD.out).mono ?_);rintro e w7 ⟨rfl,h7,NN⟩;have HK7:=hid (Zh.out.trans NN);have HY7:=hid (NN.2 _ _ _ Zi.out ai dH);have HF:=hid (And.intro h7 HK7.out);clear h7 NN TD HK7;exact NP
 ):p:=h
theorem X8 (h:p:=by
 by_cases hlt:d<ca.tmps.size
 ·simp only [hlt,decide_true,cond_true];rw [Array.getElem?_eq_getElem hlt];have:ca.tmps.getD d undef=ca.tmps[d]:=by simp [hlt]
  rw [this] at hv;generalize a.val d=x at hv;generalize ca.tmps[d]=y at hv;cases hv<;>rfl
 ·simp only [hlt,decide_false,cond_false];rw [Array.getElem?_eq_none (Nat.le_of_not_lt hlt)]
 ):p:=h
theorem Ya (h:p:=by
 have hg':w.drew.heap[g]?=some (.cells ds 5 (0,0)):=hg;refine Lib.run_unsafeString_row w.drew 139 3 9 5 Tryz.underlying139 ah g ds.size (by simp [World.shape?,hg']) l h0 hn aa ?_;intro j x hx;have:(⟨g,0,none⟩:Addr).add j=⟨g,j,none⟩:=by unfold Addr.add;split<;>simp_all
 rw [this,Lib.cell_of_heap hg'];exact hcell j x hx
 ):p:=h
theorem Yv (h:p:=by
 have nx:=js (P:=Tryz.prog) f pos hlt;have iM:=hR.out.1;rw [List.drop_eq_nil_of_le (by rw [Hfl.out];omega)] at iM;have Hd2:=hid (show R=true from iM.symm);clear iM hR;go_wp2;go_end0;exact⟨by rw [Hd2.out];rfl,cN⟩
 ):p:=h
theorem XZ (h:p:=by
 go_enter Tryz.func65,Tryz.ntmps65;go_wp2_with (go_at_call 117;((with_reducible refine(eH.out _).mono ?_));rintro e w' ⟨rfl,hb⟩;obtain⟨g1,rfl⟩:=ay hb;clear hb);exact Zj
 ):p:=h
theorem Zk (h:p:=by
 intro w1 hown1 qO;have R2:=wo.grown qO wo.size (fun j hj=>by cases hj;exact Nat.le_refl _);have R3:=hid (hS.out.snoc t.data.toList (.lit (.int .i64 (wrap64 (c+1)))));rw [←Hst.out] at R3;clear qO hown e1 e2 wo hat hwc;go_wp2;go_roundw
 case rel=>exact⟨k+1,_,by omega,by go_num,hown1,R2,R3⟩
 case measure=>simp [intOf];omega
 ):p:=h
theorem Zl (h:p:=by
 refine Am.bh rfl rfl (Am.cH (w':=w1) (f:=205) (args:=#[.agg #[.int .i64 27,.string xt,.slice (some ⟨aq,aU,none⟩) xl xc,.int .i64 aP]]) ?_ ((A6.out w1).mono ?_))
 ·exact BP
 ·exact sB
 ):p:=h
theorem Zm (h:p:=by
 refine Am.bh rfl rfl (Am.cH (w':=w1) (f:=205) (args:=#[.agg #[.int .i64 29,.string xt,.slice (some ⟨aq,aU,none⟩) xl xc,.int .i64 aP]]) ?_ ((A6.out w1).mono ?_))
 ·exact BP
 ·exact sB
 ):p:=h
theorem Zn (h:p:=by
 refine Am.bh rfl rfl (Am.cH (w':=w1) (f:=205) (args:=#[.agg #[.int .i64 30,.string xt,.slice (some ⟨aq,aU,none⟩) xl xc,.int .i64 aP]]) ?_ ((A6.out w1).mono ?_))
 ·exact BP
 ·exact sB
 ):p:=h
theorem Zo (h:p:=by
 exact ag0
 ):p:=h
theorem XW (h:p:=by
 have hd:=H.out;rw [if_neg aa] at hd;refine⟨⟨pos+1,m*10+eZ b,by simp, ?_,xz,by omega,by omega,hd.symm⟩,by simp [intOf];omega⟩;rw [show 10*(m:Int)+(eZ b:Int)=((m*10+eZ b:Nat):Int) by omega]
 ):p:=h
theorem Ys (h:p:=by
 rw [if_pos hcs] at su sw;have Yt:=hid su;have MV:=hid sw;rcases hcs with hcs|hcs
 all_goals
  rw [hcs] at nx;clear su sw hR hnu hb hx nH hdec zh hcs;go_wp2;refine⟨⟨pos+1,bE,g,rfl,rfl,by omega,hat,Yt.out.symm,MV.out⟩, ?_⟩;rw [iy _ _ _ _ _ rfl,iy _ _ _ _ _ rfl];omega
 ):p:=h
theorem X5 (h:p:=by
 have Hb:=hid (hno (by simp [bK,hd]));exact X3
 ):p:=h
theorem Mq (h:p:=by
 go_enter Tryz.func92,Tryz.ntmps92;go_wp2_with (go_at_call 139;((with_reducible refine(gW _).mono ?_));rintro e w' ⟨rfl,hw⟩;rw [hw];clear hw w');refine⟨rfl,qV us Hr.out rfl ?_⟩
 repeat (first|exact Below.refl _ _|refine bG ?_ _|refine bI ?_ _ _|refine bA ?_ _|refine bD ?_|refine bN ?_ _)
 ):p:=h
theorem XM (h:p:=by
 have nx:=js (P:=Tryz.prog) s pos hlt;have hd:=hR.out.2;rw [List.drop_eq_nil_of_le (by rw [Hl.out];omega)] at hd;have H:=hid hd;have Hm:=hid hR.out.1;clear hd hR;go_wp2;go_ret2;exact⟨by rw [←H.out];rfl,dX⟩
 ):p:=h
theorem Zp (h:p:=by
 rcases hIn with h|⟨b1,o1,hp1,hl1,hc1⟩
 ·rw [h] at bu;simp at bu
 ·rw [bf] at hp1;cases hp1;refine .inr ⟨_,_,rfl,hl1,fun i hi=>?_⟩;have:=hc1 (i+1) (by rw [List.length_drop] at hi;omega);rw [List.getElem_drop];rw [show aU+1+i=aU+(i+1) by omega,this];congr 3;omega
 ):p:=h
theorem NQ (h:p:=by
 exact agX
 ):p:=h
theorem NS (h:p:=by
 rintro e w2 ⟨rfl,h2,hk2⟩;have eD:=hid (cm.out.trans hk2);have fW:=hid (hk2.2 _ _ _ dJ.out ai dH);have HF:=hid (And.intro h2 eD.out);clear h2 hk2 dG eD;exact NP
 ):p:=h
theorem Zq (h:p:=by
 refine Am.bh rfl rfl (Am.cH (w':=w1) (f:=96) (args:=#[.int .i64 ((d:Int))]) ?_ ((hP.out w1).mono ?_))
 ·exact BP
 ·exact NT
 ):p:=h
theorem Yb (h:p:=by
 clear gO jS;exact Yc
 ):p:=h
theorem Zr (h:p:=by
 have hx:=hR.out;rw [List.drop_eq_nil_of_le (by rw [Hln.out];omega)] at hx;have Hx:=hid hx.symm;have k1:¬(k:Int)<(s.size:Int):=aa;clear hx hR;go_wp2;go_ret;exact⟨by rw [Hx.out];rfl,dX⟩
 ):p:=h
theorem XK (h:p:=by
 have hd:=H.out;rw [if_pos (by
  rcases Nat.lt_or_ge (qM b) 17 with h|h
  ·have:=th h;omega
  ·have:=Fi (b:=b) aa;omega)] at hd
 exact Zs
 ):p:=h
theorem XX (h:p:=by
 have hd:=hR.out.2;rw [List.drop_eq_nil_of_le (by rw [Hl.out];omega)] at hd;have H:=hid hd;have Hm:=hid hR.out.1;have p2:¬((pos:Int)<(s.size:Int)):=aa;clear hd hR;go_wp2;go_ret2;exact⟨by rw [←H.out,show iU [] m=some m from rfl,GH Hm.out];rfl,hB⟩
 ):p:=h
theorem Nz (h:p:=by
 have Hb:=hid (hno (by simp [bK,hd]));exact Zt
 ):p:=h
theorem BQ (h:p:=by
 rintro e w3 ⟨rfl,h3,hk3⟩;have HF:=hid (And.intro h3 (eD.out.trans hk3));clear h3 hk3 eI eD;go_wp2;refine⟨⟨i+1,by omega,by go_num,hid ⟨?_,HF.out.2⟩⟩,by simp [intOf];omega⟩;rw [sR.out,if_pos nR];exact NU
 ):p:=h
theorem FN (h:p:=by
 rintro e w3 ⟨rfl,h3,hk3⟩;have HF:=hid (And.intro h3 (cm.out.trans hk3));clear h3 hk3 eI cm;go_wp2;refine⟨⟨i+1,by omega,by go_num,hid ⟨?_,HF.out.2⟩⟩,by simp [intOf];omega⟩;rw [sR.out,if_neg nR];exact NU
 ):p:=h
theorem Nx (h:p:=by
 have Hb:=hid (hno (by simp [bK]));exact Zt
 ):p:=h
theorem Xq (h:p:=by
 apply List.eq_nil_iff_forall_not_mem.2;intro i hi;obtain⟨h1,o,ho,_⟩:=mem_ready.1 hi;have hlt:=(Array.getElem?_eq_some_iff.1 ho).1;have:=hl i hlt;have hi':i<l.size:=aa;simp [Array.getD_eq_getD_getElem?,hi'] at this h1;rw [this] at h1;cases h1
 ):p:=h
theorem Yl (h:p:=by
 cases en with
 |panic u=>exact(au h4).elim
 |ret u=>
  obtain⟨rfl,rfl⟩:=pure_run h4;cases e2 with
  |panicked c=>exact hen.elim
  |outgrown=>exact hen.elim
  |returned u'=>exact hK E2 u' w2 (lD E2 hx2) hen (by rw [nh] at qI;exact qI)
 ):p:=h
theorem Xw (h:p:=by
 unfold Region.wanted;cases hg:o.guard with
 |none=>rfl
 |some jw=>
  obtain⟨j,b⟩:=jw;have hj:=(AE i o ho).2 j b hg;simp only;have:yielded (pre.push p) a.tmps j=yielded pre a.tmps j:=by
   unfold yielded;rw [wT j hj]
  rw [this]
 ):p:=h
theorem NV (h:p:=by
 cases ho;have aW:=Am.lk 198 12 ag fun _=>rfl
 have mQ:=Am.lk 208 22 ag fun _=>rfl
 exact xR
 ):p:=h
theorem NW (h:p:=by
 cases ho;have aW:=Am.lk 195 9 ag fun _=>rfl
 have mQ:=Am.lk 196 10 ag fun _=>rfl
 exact xR
 ):p:=h
theorem Yy (h:p:=by
 clear Hr;go_wp2_with (go_at_call 139;((with_reducible refine(gW _).mono ?_));rintro e w' ⟨rfl,hw⟩;rw [hw];clear hw w');exact⟨rfl,by rw [HR.out];rfl,dX⟩
 ):p:=h
theorem XJ (h:p:=by
 have e:=th (b:=b) aa;have hd:=H.out;rw [if_neg aa] at hd;refine⟨⟨pos+1,m*10+qM b,_,by simp,rfl,by omega,by omega,by rw [←e];exact hd.symm⟩, ?_⟩;exact Fx
 ):p:=h
theorem Zu (h:p:=by
 cases ho;have aW:=Am.lk 7 4 ag fun _=>rfl
 have mQ:=Am.lk 8 5 ag fun _=>rfl
 exact xR
 ):p:=h
theorem XY (h:p:=by
 have e:fy s.data.toList=iU s.data.toList 0:=by
  unfold fy;rw [if_neg,if_neg (fun h3=>by rw [h3] at hl;simp at hl;omega)];intro h3;rw [←iA s 2 aa] at h3;rw [h3.2] at h2;cases h2
 rw [e];exact this
 ):p:=h
theorem Zv (h:p:=by
 clear rW;go_enter Tryz.func64,Tryz.ntmps64;go_wp2_with (first
  |(go_at_call 112;((with_reducible refine(Hsh.out _).mono ?_));rintro e w' ⟨rfl,hb⟩;obtain⟨g0,rfl⟩:=ay hb;clear hb))
 go_ret;exact A8
 ):p:=h
theorem Zw (h:p:=by
 rintro e w2 ⟨rfl,h2,hk2⟩;have eD:=hid (cm.out.trans hk2);have HF:=hid (And.intro h2 eD.out);clear h2 hk2 dG eD;exact Zx
 ):p:=h
theorem Zy (h:p:=by
 have h9:=mR ns[m].kids ns[m].kp ns[m].aG (fun i=>E (ns[m].kids.getD i 0) d) u (d:Int) w hw hIn aa (fun i hi u w hw hs=>by
  have:=bZ i hi;exact hE _ d u w hw this.1 aa aa hs) hs
 exact h9
 ):p:=h
theorem Yx (h:p:=by
 generalize nV ds=z at*;have abD:=hid H6;clear hR hrow qa hdb Bg QF hrow2 H6;exact Zz
 ):p:=h
theorem Xt (h:p:=by
 intro l a w hl hc h;refine⟨fun hn=>(kn l hl hn).elim,fun i hi=>?_⟩;rcases Q6 l hl i hi with hlt|rfl
 ·have:=(rdy l hl i hlt).1 hi;rw [h.1] at this;cases this
 ·exact fin 0 l a w hl (full l hl hc hi) h.2
 ):p:=h
theorem X4 (h:p:=by
 have Hb:=hid (hno (by simp [bK]));clear hno uN bK;exact ZA
 ):p:=h
theorem ZB (h:p:=by
 refine .inr ⟨_,_,rfl,fu,fun i hi=>?_⟩;obtain⟨b2,o2,h1,_,h3⟩:=jC i aa;rw [fO] at h1;cases h1;rw [h3,List.getElem_take];simp [List.getD,List.getElem?_eq_getElem (show i<ns[m].kids.length by omega)]
 ):p:=h
theorem YD (h:p:=by
 go_wp2;go_ret;exact⟨by first|(rw [HD.out];rfl)|(rw [←List.map_dropLast,HD.out];rfl),cN⟩
 ):p:=h
theorem YI (h:p:=by
 exact Y5
 ):p:=h
theorem ry (h:p:=by
 cases ho;have aW:=Am.lo 7 ag rfl;refine Am.rv rfl rfl (hK _ _ (Below.refl _ _) rfl) ?_;generalize ca.eval=ev at*;simp [go_sem,execOp,hfn,hcs,aW,cX0,vp,wk,cX3]<;>first|omega|(intro hz;omega)
 ):p:=h
theorem Ei (h:p:=by
 cases ho;have aW:=Am.lk 202 16 ag fun _=>rfl
 exact NX
 ):p:=h
theorem Ej (h:p:=by
 cases ho;have aW:=Am.lk 205 19 ag fun _=>rfl
 exact ZC
 ):p:=h
theorem Ek (h:p:=by
 cases ho;have aW:=Am.lk 189 3 ag fun _=>rfl
 exact FO
 ):p:=h
theorem El (h:p:=by
 cases ho;have aW:=Am.lk 200 14 ag fun _=>rfl
 exact xS
 ):p:=h
theorem NY (h:p:=by
 refine⟨_,hr,⟨by rw [hlen];simp;omega,fun a v j ha hv=>?_⟩,fun _ _ _ _=>by simp;omega,by simp⟩;rw [cM] at ha hv;split at ha
 ·rw [if_pos eL] at hv;exact h5 a v _ ha hv
 ·cases ha
 ):p:=h
theorem Em (h:p:=by
 cases ho;have aW:=Am.lk 187 1 ag fun _=>rfl
 exact xS
 ):p:=h
theorem NZ (h:p:=by
 cases ho;have aW:=Am.lk 10 7 ag fun _=>rfl
 refine Am.rv rfl rfl (hK _ _ (Below.refl _ _) rfl) ?_;generalize ca.eval=ev at*;simp [go_sem,execOp,hfn,hcs,aW,cZw]<;>first|omega|(intro hz;omega)
 ):p:=h
theorem En (h:p:=by
 clear h0;exact FP
 ):p:=h
theorem Eo (h:p:=by
 clear h1;exact FP
 ):p:=h
theorem N0 (h:p:=by
 clear h2;exact FP
 ):p:=h
theorem N1 (h:p:=by
 cases ho;have aW:=Am.lk 6 3 ag fun _=>rfl
 refine Am.rv rfl rfl (hK _ _ (Below.refl _ _) rfl) ?_;generalize ca.eval=ev at*;simp [go_sem,execOp,hfn,hcs,aW,cBw]<;>first|omega|(intro hz;omega)
 ):p:=h
theorem MB (h:p:=by
 rintro e w3 ⟨rfl,h3,hk3⟩;have HF:=hid (And.intro h3 (eD.out.trans hk3));clear h3 hk3 dG eD;exact Zx
 ):p:=h
theorem Kl (h:p:=by
 refine az.val ⟨_,fun w=>?_,.ptr hk⟩;simp only [Instr.indexAt,Sem.run_bind,run_underlying hu,Result.andThen_ok,asIntOf,Sem.run_pure,hb,and_self,if_true,sizeOf,typeInfo,run_program,jg,eN]
 ):p:=h
theorem Ka (h:p:=by
 have e:=th (b:=b) aa;have hd:=H.out;rw [if_pos aa] at hd;exact Zs
 ):p:=h
theorem Ep (h:p:=by
 cases ho;have aW:=Am.lk 197 11 ag fun _=>rfl
 exact gG
 ):p:=h
theorem Er (h:p:=by
 cases ho;have aW:=Am.lk 201 15 ag fun _=>rfl
 exact gG
 ):p:=h
theorem Es (h:p:=by
 cases ho;have aW:=Am.lk 209 23 ag fun _=>rfl
 exact gG
 ):p:=h
theorem Et (h:p:=by
 cases ho;have aW:=Am.lk 188 2 ag fun _=>rfl
 exact gG
 ):p:=h
theorem Eu (h:p:=by
 cases ho;have aW:=Am.lk 194 8 ag fun _=>rfl
 exact gG
 ):p:=h
theorem N2 (h:p:=by
 cases ho;have aW:=Am.lk 4 1 ag fun _=>rfl
 exact gG
 ):p:=h
theorem N3 (h:p:=by
 cases ho;have aW:=Am.lk 5 2 ag fun _=>rfl
 exact gG
 ):p:=h
theorem N4 (h:p:=by
 cases ho;have aW:=Am.lk 9 6 ag fun _=>rfl
 exact gG
 ):p:=h
theorem gz (h:p:=by
 exact FP
 ):p:=h
theorem zP (h:p:=by
 cases ho;have aW:=Am.lo 1 ag rfl;exact ZE
 ):p:=h
theorem Kn (h:p:=by
 unfold Oper.wp execOp;simp only [ho,resolve,invoke,builtin,Sem.run_bind,Sem.run_pure,Result.andThen_ok,List.map_toArray,List.map_cons,List.map_nil,hs,hx,hty,hr];exact hK _ _ (hk v' w' h2)
 ):p:=h
theorem fB (h:p:=by
 exact FQ
 ):p:=h
theorem eW (h:p:=by
 exact BR
 ):p:=h
theorem fC (h:p:=by
 exact N5
 ):p:=h
theorem zQ (h:p:=by
 cases ho;have aW:=Am.lo 9 ag rfl;exact gG
 ):p:=h
theorem Jx (h:p:=by
 rw [←heq] at key;have akh:(Array.replicate ops.pop.size false).push false=Array.replicate ops.size false:=by
  rw [hsz];exact Array.replicate_succ.symm
 rw [akh,←hsz] at key;exact key
 ):p:=h
theorem N6 (h:p:=by
 refine hK _ w hb2 (hq i aa).1 (by have:=(hq i aa).2;omega) ?_;have:=iC (i+1) hi;unfold jt at this;split at this<;>simp only [ByteArray.size_append] at this<;>omega
 ):p:=h
theorem Mi (h:p:=by
 obtain⟨j,hj,_⟩:=Option.map_eq_some_iff.1 Tryz.sizeBuilder;go_enter Tryz.func98,Tryz.ntmps98;go_wp2;rw [Lib.run_neq_ptr_same w _ Tryz.underlying74 hj];exact Bo
 ):p:=h
theorem KT (h:p:=by
 have hd:=H.out;rw [if_pos aa] at hd;go_ret2;exact⟨by rw [hd];rfl,xz⟩
 ):p:=h
theorem M9 (h:p:=by
 clear hR hrow qa hdb Bg QF hrow2 H6 XS e;exact Zz
 ):p:=h
theorem N7 (h:p:=by
 go_wp2;go_ret;exact⟨by rw [←Bool.beq_eq_decide_eq];rfl,cN⟩
 ):p:=h
theorem MP (h:p:=by
 rcases hx with h|h|h
 ·have:letters.all (fun c=>decide (c<128))=true:=by decide
  exact of_decide_eq_true (List.all_eq_true.1 this _ h)
 ·rw [h];decide
 ·rw [h];decide
 ):p:=h
theorem Ew (h:p:=by
 refine⟨rfl,qV cy Yf.out rfl ?_⟩
 repeat (first|exact Below.refl _ _|exact HX.out|refine bG ?_ _|refine bI ?_ _ _|refine bA ?_ _|refine bD ?_|refine bN ?_ _)
 ):p:=h
theorem L8 (h:p:=by
 cases hb:Nat.blt g lo.G with
 |true=>
  simp [yG,hb] at hv;subst hv;rw [blt_eq] at hb;exact .ptr (r:=0) (hold g (by simpa using hb))
 |false=>simp [yG,hb] at hv
 ):p:=h
theorem J4 (h:p:=by
 refine this.mono fun e w' ⟨E,_,he,tu⟩=>?_
 cases e with
 |returned v'=>exact⟨v,v',E,h,rfl,he,tu.below⟩
 |panicked c=>exact he.elim
 |outgrown=>exact he.elim
 ):p:=h
theorem N8 (h:p:=by
 rw [rounds_succ];go_wp2;rw [rounds_succ];go_wp2;refine wp_loop_rounds 7 ?_;exact ZF
 ):p:=h
theorem N9 (h:p:=by
 rw [rounds_succ];go_wp2;rw [rounds_succ];go_wp2;exact ZG
 ):p:=h
theorem Oa (h:p:=by
 rw [rounds_succ];go_wp2;exact ZH
 ):p:=h
theorem Ob (h:p:=by
 go_wp2_with (first|(go_at_call 96;(with_reducible refine(hP.out _).mono ?_);rintro e w' ⟨rfl,hw⟩;rw [hw];clear hw w'));go_ret;exact⟨by rw [kK.out];rfl,dh.out⟩
 ):p:=h
theorem Oc (h:p:=by
 go_wp2_with (go_at_call 157;refine(TE n h0 h1 _ hl).mono ?_;rintro e w' ⟨rfl,hb⟩;obtain⟨g,rfl⟩:=ay hb;clear hb);go_ret;exact A8
 ):p:=h
theorem KY (h:p:=by
 have e:fy s.data.toList=iU s.data.toList 0:=by
  unfold fy;rw [if_neg aa,if_neg (fun h3=>by rw [h3] at hl;simp at hl;omega)]
 rw [e];exact this
 ):p:=h
theorem DD (h:p:=by
 exact ZA
 ):p:=h
theorem Nq (h:p:=by
 have j1:¬(j:Int)<(j:Int):=aa;clear hJ hR;go_wp2;go_roundw
 case rel=>exact⟨j+1,_,by go_num,by omega,rfl,HN⟩
 case measure=>simp [intOf];omega
 ):p:=h
theorem Od (h:p:=by
 go_wp2;go_ret;exact⟨by rw [HD.out];rfl,cN⟩
 ):p:=h
theorem MQ (h:p:=by
 constructor
 ·rintro(h|h)
  ·exact .inl (UInt8.toNat_inj.1 h)
  ·exact .inr (UInt8.toNat_inj.1 h)
 ·rintro(h|h)<;>rw [h]
  ·exact .inl rfl
  ·exact .inr rfl
 ):p:=h
theorem KW (h:p:=by
 rw [ByteArray.toList_eq];cases e:s.data.toList with
 |nil=>rfl
 |cons x l=>
  have:s.data.toList.length=s.size:=ak;rw [e] at this;simp at this;omega
 ):p:=h
theorem JM (h:p:=by
 go_wp2;go_quiet (fail);go_wp2;go_roundw
 case rel=>exact⟨i+1,by omega,by go_num,by rw [wX.out,hq.out];rfl,bN HB.out _⟩
 case measure=>simp [intOf];omega
 ):p:=h
theorem Oe (h:p:=by
 clear QL hS;go_wp2_with (at_len;refine wpList_len_own _ rfl _ 119 rfl 9 3 Tryz.underlying119 _ w.heap.size k D rfl hown ?_);go_ret;exact⟨by rw [hres.out];rfl,wo⟩
 ):p:=h
theorem M3 (h:p:=by
 have h1:Nat.mod (2*j+1) 2=1:=by show(2*j+1) % 2=1;omega
 have h2:Nat.div (2*j+1) 2=j:=by show(2*j+1) / 2=j;omega
 rw [h1,h2];rfl
 ):p:=h
theorem Og (h:p:=by
 go_ret;exact⟨by rw [kK.out];rfl,fH⟩
 ):p:=h
theorem Oh (h:p:=by
 go_ret;exact⟨by rw [HX.out];rfl,fH⟩
 ):p:=h
theorem Ex (h:p:=by
 exact FO
 ):p:=h
theorem Oi (h:p:=by
 exact NX
 ):p:=h
theorem zo (h:p:=by
 exact Y7
 ):p:=h
theorem rz (h:p:=by
 exact xS
 ):p:=h
theorem jc (h:p:=by
 exact xR
 ):p:=h
theorem Oj (h:p:=by
 exact ZI
 ):p:=h
theorem Ny (h:p:=by
 have H9:=hid h9;clear h9;clear hno uN bK;go_wp2;go_roundw
 case rel=>exact⟨k+1,g9,by omega,by go_num,H9.out,Hy⟩
 case measure=>simp [intOf];omega
 ):p:=h
theorem LW (h:p:=by
 rw [Hck.out,if_neg];intro hr;unfold lR at hr;rw [List.all_eq_true] at hr;have:=hr k (List.mem_range.2 DF);rw [←Hkd.out,←Hub.out] at this;exact h this
 ):p:=h
theorem Ok (h:p:=by
 clear Hr;rw [rA.out];go_wp2;go_ret;exact⟨by rw [HR.out];rfl,dX⟩
 ):p:=h
theorem Kr (h:p:=by
 intro v' w' Rn;go_wp2;go_roundw
 case rel=>exact⟨i+1,by omega,by go_num,by rw [wX.out,hq.out,hcb];exact Rn⟩
 case measure=>simp [intOf];omega
 ):p:=h
theorem Np (h:p:=by
 clear hJ;go_wp2;go_quiet (fail);go_wp2;go_roundw
 case rel=>exact⟨j+1,_,by go_num,by omega,D6 _ _ _,Hne⟩
 case measure=>simp [intOf];omega
 ):p:=h
theorem dF (h:p:=by
 exact gG
 ):p:=h
theorem Kq (h:p:=by
 intro v' w' Rn;exact Y0
 ):p:=h
theorem LM (h:p:=by
 clear gO jS;exact X2
 ):p:=h
theorem Ey (h:p:=by
 exact abT
 ):p:=h
theorem zR (h:p:=by
 obtain⟨h3,rfl⟩:=pure_run h2;cases h3;cases ce<;>simp only [yI] at rN<;>first|exact rN.elim|skip
 exact hQ E1 _ ni w1 hx1 trivial ha1 pq
 ):p:=h
theorem KX (h:p:=by
 have e:fy s.data.toList=none:=by
  unfold fy;rw [if_neg aa,if_pos (List.eq_nil_of_length_eq_zero aa)]
 rw [e];exact this
 ):p:=h
theorem K4 (h:p:=by
 simp only [ByteArray.size_append];have e:(⟨#[123]⟩:ByteArray).size=1:=rfl;have e2:(⟨#[125]⟩:ByteArray).size=1:=rfl;rw [e,e2];omega
 ):p:=h
theorem vw (h:p:=by
 obtain⟨h3,rfl⟩:=pure_run h2;cases h3;cases ce<;>simp only [yI] at rN<;>first|exact rN.elim|skip
 exact hQ E1 _ ni w1 hx1 rN ha1 pq
 ):p:=h
theorem M0 (h:p:=by
 have h1:Nat.mod (2*j) 2=0:=Nat.mul_mod_right 2 j;have h2:Nat.div (2*j) 2=j:=Nat.mul_div_cancel_left j ai;rw [h1,h2];rfl
 ):p:=h
theorem Ol (h:p:=by
 exact YP
 ):p:=h
theorem K3 (h:p:=by
 simp only [ByteArray.size_append];have e:(⟨#[40]⟩:ByteArray).size=1:=rfl;have e2:(⟨#[41]⟩:ByteArray).size=1:=rfl;rw [e,e2];omega
 ):p:=h
theorem Om (h:p:=by
 rw [rounds_succ];go_wp2;exact ZJ
 ):p:=h
theorem Oo (h:p:=by
 go_ret;exact⟨rfl,fH⟩
 ):p:=h
theorem MI (h:p:=by
 have h3:=List.all_eq_true.1 h2 _ hm;simp only [Array.all_eq_true_iff_forall_mem] at h3;have h4:=h3 e he;rw [hb,blt_eq] at h4;simpa using h4
 ):p:=h
theorem Oq (h:p:=by
 exact YQ
 ):p:=h
theorem abU (h:p:=by
 have h1:=Ik.out;have h2:u.toNat<ds.length:=aa;rw [List.getD,List.getElem?_eq_getElem h2];exact Hdb.out _ (List.getElem_mem h2)
 ):p:=h
theorem JK (h:p:=by
 go_wp2;go_roundw
 case rel=>exact⟨i+1,by omega,by go_num,by rw [wX.out,hq.out];rfl,HB.out⟩
 case measure=>simp [intOf];omega
 ):p:=h
theorem KL (h:p:=by
 show(match ns[(m:Int).toNat]? with|some x=>aF ns _ _ _ x d|none=>_)=_;rw [Int.toNat_natCast,List.getElem?_eq_getElem hm]
 ):p:=h
theorem KN (h:p:=by
 show(match ns[(m:Int).toNat]? with|some x=>aQ ns _ _ _ x d|none=>_)=_;rw [Int.toNat_natCast,List.getElem?_eq_getElem hm]
 ):p:=h
theorem ML (h:p:=by
 intro n hg;cases n with
 |zero=>simp [fD] at hg
 |succ n=>rw [VR.MK (E:=E) h1 hg fun a c j ha hc hga=>ih a c j ha hc n hga]
 ):p:=h
theorem ME (h:p:=by
 refine h.below.trans ⟨hw.os,hw.tape,hw.output,Nat.le_of_eq hw.size.symm,fun i hi=>hw.other i ?_⟩;have:=h.own k0 b r JO hE;omega
 ):p:=h
theorem JJ (h:p:=by
 go_wp2;go_roundw
 case rel=>exact⟨i+1,by omega,by go_num,by rw [wX.out,hq.out],HB.out⟩
 case measure=>simp [intOf];omega
 ):p:=h
theorem Ml (h:p:=by
 rw [h2];obtain⟨co,hT⟩:=wJ (w:=w.drew) (n:=l.length) (show w.drew.heap[g]?=_ from a4);exact⟨co,mG hT⟩
 ):p:=h
theorem abV (h:p:=by
 unfold jN;rw [HAl.out,if_neg gY,if_neg Av,List.getD,List.getElem?_eq_getElem hpl];exact BK
 ):p:=h
theorem KM (h:p:=by
 show(match ns[(m:Int).toNat]? with|some x=>bW ns _ x|none=>_)=_;rw [Int.toNat_natCast,List.getElem?_eq_getElem hm]
 ):p:=h
theorem Ez (h:p:=by
 exact NP
 ):p:=h
theorem MM (h:p:=by
 by_cases e:i=s.next
 ·subst e;exact .inr ⟨Nat.le_refl _,by omega⟩
 ·simp [Env.put,e] at hi;exact .inl (by simpa using hi)
 ):p:=h
theorem uX (h:p:=by
 exact YU
 ):p:=h
theorem Ot (h:p:=by
 go_ret;exact⟨by rw [Hp.out];rfl,dX⟩
 ):p:=h
theorem Ou (h:p:=by
 exact⟨⟨iD h.below hT h.lt,h.lt,⟨v,hT.at_,vz h2 hT (fun cur e=>by rw [h1] at e;cases e)⟩⟩,xU hT⟩
 ):p:=h
theorem zS (h:p:=by
 exact NH
 ):p:=h
theorem JW (h:p:=by
 cases nx<;>simp only [NR] at qB<;>first|exact qB.elim|skip
 ·exact key _ qB
 ·subst qB;exact key _ (VR.undef E1)
 ):p:=h
theorem Ov (h:p:=by
 rw [hb];clear h0 h1 h2 h3 h4 h5 h6 h7 h8 h9 hb;go_enter Tryz.func181,Tryz.ntmps181;exact vA
 ):p:=h
theorem Ow (h:p:=by
 rw [hb];clear h0 h1 h2 h3 h4 h5 h6 h7 h8 h9 hb;go_enter Tryz.func114,Tryz.ntmps114;exact vA
 ):p:=h
theorem Ox (h:p:=by
 exact ZG
 ):p:=h
theorem abW (h:p:=by
 have:s.data.toList[0]'(by rw [gD];exact dB)=b:=by simp [Dv]
 rw [←this];simp [ByteArray.getElem_eq_getElem_data]
 ):p:=h
theorem L6 (h:p:=by
 cases hg:fD 3 u with
 |true=>simp [yG,hg] at hv;subst hv;exact cF E 3 u hg
 |false=>simp [yG,hg] at hv
 ):p:=h
theorem LZ (h:p:=by
 clear hno uN bK;go_wp2;go_round
 case rel=>exact⟨k+1,by omega,by go_num,Hy⟩
 case measure=>simp [intOf];omega
 ):p:=h
theorem abX (h:p:=by
 have:=Ik.out;rw [qg.out,List.getElem?_append_left aa,List.getD,List.getElem?_eq_getElem aa];rfl
 ):p:=h
theorem Nb (h:p:=by
 go_wp2;go_end0;exact Mm
 ):p:=h
theorem J8 (h:p:=by
 go_wp2;go_ret;exact Mm
 ):p:=h
theorem Da (h:p:=by
 rw [ByteArray.toList_eq];cases e:s.data.toList==nI with
 |true=>exact absurd (eq_of_beq e) h0
 |false=>exact e
 ):p:=h
theorem K6 (h:p:=by
 rw [hz,aY (List.getElem?_eq_getElem hzl)] at h;have h2:ns[z].kind.toNat=22:=Nat.eq_of_beq_eq_true h;omega
 ):p:=h
theorem LU (h:p:=by
 have h:=hR.out.2;rw [show ns.drop n=[] by rw [HL.out,List.drop_length]] at h;unfold bF;rw [←HL.out,←h];rfl
 ):p:=h
theorem C7 (h:p:=by
 obtain⟨h3,rfl⟩:=pure_run h2;cases h3;cases ce<;>first|exact k2.elim|exact hQ E1 _ ni XE w1 k1 k2 k3 k4 k5
 ):p:=h
theorem Oy (h:p:=by
 go_roundw
 case rel=>exact⟨k+1,_,by go_num,rfl,by omega,hid Hp.out.symm⟩
 case measure=>simp [intOf];omega
 ):p:=h
theorem Oz (h:p:=by
 unfold zT;rw [hz,aY (List.getElem?_eq_getElem hzl),eY,Int.toNat_natCast,List.getElem?_eq_getElem hzl]
 ):p:=h
theorem Nh (h:p:=by
 rw [h5] at hR;exact ZK
 ):p:=h
theorem vB (h:p:=by
 exact ZL
 ):p:=h
theorem ur (h:p:=by
 rw [ByteArray.toList_eq];cases e:s.data.toList with
 |nil=>rw [e] at hl;simp at hl;omega
 |cons x l=>rfl
 ):p:=h
theorem LY (h:p:=by
 by_cases Ef:m<k
 ·exact hK.out m Ef
 ·obtain rfl:m=k:=by omega
  rw [←Hkd.out,←Hub.out];exact h
 ):p:=h
theorem Mx (h:p:=by
 have:=Tryz.strings_Repeat ⟨#[32,32]⟩ d W aa (by show 2*d≤_;omega);rw [←uT];exact this
 ):p:=h
theorem J1 (h:p:=by
 cases ce<;>simp only [yI] at rN<;>first|exact rN.elim|skip
 exact leave .ret .returning trivial h2
 ):p:=h
theorem JY (h:p:=by
 cases ce<;>first|exact k2.elim|exact⟨hdd,Ja,rfl,_,Gq hsz.2 _ _,E',_,rfl,k1,k4,k5⟩
 ):p:=h
theorem L3 (h:p:=by
 unfold lR;rw [List.all_eq_true];intro m hm;exact hK.out m (by rw [HL.out];exact List.mem_range.1 hm)
 ):p:=h
theorem abY (h:p:=by
 cases h:s.data.toList with
 |nil=>rw [h] at gD;simp at gD;omega
 |cons b t=>exact⟨b,t,rfl⟩
 ):p:=h
theorem vC (h:p:=by
 exact BP
 ):p:=h
theorem Ju (h:p:=by
 obtain⟨_,o,ho,_⟩:=mem_ready.1 hi;have:=(Array.getElem?_eq_some_iff.1 ho).1;simp at this;omega
 ):p:=h
theorem Km (h:p:=by
 exact .inr ⟨g,cap,cur,h1,h2,by rw [hb.block g (Array.getElem?_eq_some_iff.1 h3).1];exact h3,h4⟩
 ):p:=h
theorem Eb (h:p:=by
 go_enter Tryz.func205,Tryz.ntmps205;go_wp2;go_ret;exact⟨by rw [Ht.out];rfl,bA (Below.refl _ _) _⟩
 ):p:=h
theorem ve (h:p:=by
 exact ZK
 ):p:=h
theorem abZ (h:p:=by
 rw [h1.below.cell (p:=⟨b,_,none⟩) hlt,hc i di];simp [List.getD,List.getElem?_eq_getElem di]
 ):p:=h
theorem OA (h:p:=by
 cases hx;exact az.val ⟨_,fun w=>by simp [Builtin.len_,ht,run_underlying hu,goInt],.int _ _⟩
 ):p:=h
theorem OB (h:p:=by
 cases hx;exact az.val ⟨_,fun w=>by simp [Builtin.cap_,ht,run_underlying hu,goInt],.int _ _⟩
 ):p:=h
theorem MS (h:p:=by
 rw [List.getElem?_eq_getElem (by rw [Hfl.out];exact h)];exact BK
 ):p:=h
theorem MT (h:p:=by
 cases e:(((f[pos]).toNat:Int)==42) with
 |false=>rfl
 |true=>have:=eq_of_beq e;omega
 ):p:=h
theorem MU (h:p:=by
 cases e:(((f[pos]).toNat:Int)==46) with
 |false=>rfl
 |true=>have:=eq_of_beq e;omega
 ):p:=h
theorem MZ (h:p:=by
 cases e:(((m - F:Nat):Int)==0) with
 |false=>rfl
 |true=>have:=eq_of_beq e;omega
 ):p:=h
theorem L9 (h:p:=by
 rw [hy];cases jT ops a j with
 |none=>rfl
 |some b=>cases b<;>cases want<;>rfl
 ):p:=h
theorem Nn (h:p:=by
 rw [List.getElem?_eq_getElem zM,←Hgj.out];simp [List.getD,List.getElem?_eq_getElem zM]
 ):p:=h
theorem MR (h:p:=by
 rcases hx with h|h|h
 ·exact h
 ·exact absurd (.inl h) hcs
 ·exact absurd (.inr h) hcs
 ):p:=h
theorem yM (h:p:=by
 rw [ByteArray.toList_eq,ByteArray.toList_eq,hS1];exact(Bool.beq_eq_decide_eq _ _).symm
 ):p:=h
theorem K7 (h:p:=by
 have:=C3 ht.ahead k h0;have e:(⟨#[]⟩:ByteArray).size=0:=rfl;rw [e];omega
 ):p:=h
theorem zU (h:p:=by
 obtain rfl:i=ks.length:=aa;go_wp2;go_end0;exact⟨rfl,hst.out.1,hst.out.2⟩
 ):p:=h
theorem OC (h:p:=by
 rcases List.mem_append.1 hd with h|h
 ·have:=Hdb.out d h;omega
 ·simp at h;omega
 ):p:=h
theorem EA (h:p:=by
 obtain⟨b2,o2,h1,_,h3⟩:=jC i aa;rw [fO] at h1;cases h1;exact h3
 ):p:=h
theorem kL (h:p:=by
 go_enter Tryz.func181,Tryz.ntmps181;exact vA
 ):p:=h
theorem kM (h:p:=by
 go_enter Tryz.func114,Tryz.ntmps114;exact vA
 ):p:=h
theorem KP (h:p:=by
 unfold gh;rw [if_pos he,hpt];unfold JT;rw [hn,Nat.add_sub_cancel]
 ):p:=h
theorem EB (h:p:=by
 rw [hR,aF,hk];show mq ns E ns[m] d=_;unfold mq opT;rw [hk];rfl
 ):p:=h
theorem DB (h:p:=by
 exact NU
 ):p:=h
theorem tW (h:p:=by
 simp [Array.getElem?_replicate] at hj;split at hj<;>simp at hj
 ):p:=h
theorem MD (h:p:=by
 have:=(Array.getElem?_eq_some_iff.1 ha).1;simpa using this
 ):p:=h
theorem za (h:p:=by
 have e:(⟨#[44,32]⟩:ByteArray).size=2:=rfl;omega
 ):p:=h
theorem oW (h:p:=by
 exact sB
 ):p:=h
theorem Dw (h:p:=by
 rw [List.getElem?_eq_none aa];exact h _ h0
 ):p:=h
theorem EC (h:p:=by
 go_ret;exact⟨by rw [HX.out];rfl,bG dh.out _⟩
 ):p:=h
theorem C2 (h:p:=by
 unfold Lib.cut;rw [if_pos aa,this];rfl
 ):p:=h
theorem qD (h:p:=by
 go_wp2;go_end0;exact⟨rfl,HF.out.1,HF.out.2⟩
 ):p:=h
theorem zb (h:p:=by
 go_ret;exact A8
 ):p:=h
theorem uq (h:p:=by
 rw [List.drop_eq_getElem_cons hk];rfl
 ):p:=h
theorem agV (h:p:=by
 go_wp2;go_loopw [9,66] (fun av cv wr=>∃(j:Nat) (g2:fk),av=.int .i64 ((bE+j:Nat):Int)∧cv=.int .i64 j∧wr=grow (w.iter f (pos+1)) g2∧j≤1∧Hid ((((ks.drop bE).drop j).take (1 - j)).all (fun k=>nG k c1)=((ks.drop bE).take 1).all (fun k=>nG k c1))) (fun _ cv _=>1 - (intOf cv).toNat)
 case atStart=>exact⟨0,g,by simp,rfl,rfl,by omega,rfl⟩
 case round=>
  obtain⟨j,g2,rfl,rfl,rfl,hj,hJ⟩:=hrel;by_cases hjn:j<1
  ·have haj:bE+j<ks.length:=by rw [Cz.out];have:=MV.out;omega
   have hdj:((ks.drop bE).drop j).take (1 - j)=ks[bE+j]::((ks.drop bE).drop (j+1)).take (1 - (j+1)):=by
    rw [List.drop_drop,List.drop_eq_getElem_cons haj,show 1 - j=(1 - (j+1))+1 by omega,List.take_succ_cons,List.drop_drop];rfl
   have hJ2:=hJ.out;rw [hdj,List.all_cons] at hJ2;obtain⟨k0,yU,b,o,bq,oq,kk,rfl,rfl,hb1,hb2,hkn,iq,BH⟩:=Hk.out (bE+j) ks[bE+j] (List.getElem?_eq_getElem haj);generalize ks[bE+j]=kd at*;have HJ:=hid hJ2;have a0:(0:Int)≤((bE+j:Nat):Int):=aa;have a1:((bE+j:Nat):Int)<(m:Int):=by have:=Cz.out;omega
   have a2:(kk:Int)<(n:Int):=aa;have a3:(j:Int)<(1:Int):=aa;exact agD
  ·obtain rfl:j=1:=by omega
   have hJ2:=hJ.out;rw [show 1 - 1=0 by omega,List.take_zero,List.all_nil] at hJ2;have hRu:=Yt.out;rw [←hJ2,Bool.true_and,List.drop_drop] at hRu;have HRu:=hid hRu;have a3:¬((1:Nat):Int)<((1:Nat):Int):=aa;clear hJ2 hJ hRu;go_wp2;refine⟨⟨pos+1,bE+1,g2,by simp,rfl,by omega,by have:=MV.out;omega,HRu.out.symm,by have:=MV.out;omega⟩, ?_⟩;exact Fx
 ):p:=h
theorem ag2 (h:p:=by
 have dB:=pQ hvn.fits aa;obtain⟨bk,ok,fO,fu,fI⟩:=kE hf dB;have bZ:=hvn.kids (x.kids.getD 0 0) (by rw [List.getD,List.getElem?_eq_getElem dB];exact List.getElem_mem dB);unfold xh at hr;rw [hka,if_pos hs,jS] at hr;obtain⟨z,hz⟩:∃z:Nat,x.kids.getD 0 0=(z:Int):=⟨(x.kids.getD 0 0).toNat,by omega⟩;rw [hz] at hr bZ fI;rw [Nat.add_zero] at fI;obtain⟨q,hq⟩:∃q,q=x.kids.length:=⟨_,rfl⟩;rw [←hq] at c2 dB;rw [fO] at c2;have Hr:=hid hr;have q1:(0:Int)<(q:Int):=aa;clear hR hr hka jS hvn hf fO hz hq hx;generalize x.kind=kx at*;rcases hs with rfl|rfl|rfl
 all_goals
  go_wp2;go_round
  case rel=>exact⟨z,rfl,by omega,f,by omega,Hr.out⟩
  case measure=>simp [intOf];omega
 ):p:=h
theorem abP (h:p:=by
 rw [hcc] at hl hd;have Hd:=hid hd;clear hd hw;cases hg:nG kd cc with
 |true=>
  go_wp2_with (go_at_call 113;((with_reducible refine(OD kd cc k0 yU hl _).mono ?_));rintro e w' ⟨rfl,hb⟩;obtain⟨g3,rfl⟩:=ay hb;clear hb;rw [hg]);exact⟨⟨i+1,_,by congr 1,rfl,by omega,by have:=Hd.out;rw [hg,Bool.true_and] at this;exact this.symm⟩,by simp [intOf];omega⟩
 |false=>
  go_wp2_with (go_at_call 113;((with_reducible refine(OD kd cc k0 yU hl _).mono ?_));rintro e w' ⟨rfl,hb⟩;obtain⟨g3,rfl⟩:=ay hb;clear hb;rw [hg]);go_ret;exact⟨by rw [Hd.out,hg];rfl,cN⟩
 ):p:=h
theorem agS (h:p:=by
 have uu:Hid (eu false s.data.toList=true):=hid (by rw [Hr.out,q1,q3];rfl);clear Hr;go_enter Tryz.func116,Tryz.ntmps116;go_wp2_with (first
  |(go_at_call 117;((with_reducible refine(eH.out _).mono ?_));rintro e w' ⟨rfl,hb⟩;obtain⟨g1,rfl⟩:=ay hb;clear hb)
  |(go_at_call 107;((with_reducible refine(H1.out _ ?_).mono ?_));rotate_left;rintro e w' ⟨rfl,hb⟩;obtain⟨g2,rfl⟩:=ay hb;clear hb))
 all_goals first
  |(go_ret2;exact⟨⟨_,by rw [uu.out];rfl⟩,dX⟩)
  |exact HL.out _ dX
 ):p:=h
theorem abQ (h:p:=by
 go_wp2_with (go_at_call 44;with_reducible refine(vv.out).mono ?_);rintro e w4 ⟨rfl,h4,hk4⟩;have zV:=hid (lJ.out.trans hk4);have BS:=hid (hk4.2 _ _ _ lI.out ai dH);have HF:=hid (And.intro h4 zV.out);clear h4 hk4 vv zV;exact TF
 ):p:=h
theorem agY (h:p:=by
 go_wp2_with (go_at_call 44;with_reducible refine(eI.out).mono ?_);rintro e w3 ⟨rfl,h3,hk3⟩;have lJ:=hid (eD.out.trans hk3);have lI:=hid (hk3.2 _ _ _ fW.out ai dH);have HF:=hid (And.intro h3 lJ.out);clear h3 hk3 eI lJ;exact TF
 ):p:=h
theorem ag0 (h:p:=by
 refine Am.bh rfl rfl (Am.cH (w':=w1) (f:=150) (args:=#[.slice (some ⟨b,o,none⟩) L c,.int .i64 k0,.int .i64 ((d:Int))]) ?_ ((dm.out w1 Il).mono ?_))
 ·exact ZM
 ·rintro e w' ⟨rfl,hb'⟩;exact⟨_,rfl,hK _ _ hb' rfl⟩
 ):p:=h
theorem afG (h:p:=by
 clear jB ho;go_enter Tryz.func116,Tryz.ntmps116;go_wp2_with (go_at_call 117;((with_reducible refine(eH.out _).mono ?_));rintro e w' ⟨rfl,hb⟩;obtain⟨g1,rfl⟩:=ay hb;clear hb);go_ret2;exact⟨⟨_,by rw [Hr.out];rfl⟩,dX⟩
 ):p:=h
theorem agX (h:p:=by
 rintro e w1 ⟨rfl,h1,aR⟩;have cm:=hid (cI.out.trans aR);have dJ:=hid (aR.2 _ _ _ dW.out ai dH);have HF:=hid (And.intro h1 cm.out);clear h1 aR cR cm;exact TF
 ):p:=h
theorem ZN (h:p:=by
 go_wp2_with (go_at_call 139;((with_reducible refine(dU _).mono ?_));rintro e w' ⟨rfl,hw⟩;rw [hw];clear hw w');go_end0;exact⟨by rw [←Hr.out];rfl,cN⟩
 ):p:=h
theorem Yc (h:p:=by
 go_wp2_with (go_at_call 139;((with_reducible refine(gW _).mono ?_));rintro e w' ⟨rfl,hw⟩;rw [hw];clear hw w');refine⟨rfl,qV cy Hb.out rfl ?_⟩
 repeat (first|exact Below.refl _ _|refine bG ?_ _|refine bI ?_ _ _|refine bA ?_ _|refine bD ?_|refine bN ?_ _)
 ):p:=h
theorem X3 (h:p:=by
 clear hno uN bK;go_wp2;go_ret2;exact⟨by rw [Hb.out];show _=Ending.returned (.tuple #[.int .i64 ((n:Int) - 1),.int .i64 60]);rw [Hlk.out];rfl,cN⟩
 ):p:=h
theorem Yp (h:p:=by
 have hi':i<listed.size:=aa;cases hv:listed[i] with
 |true=>simp [hi',hv]
 |false=>
  have zK:false∈listed.toList:=by rw [List.mem_iff_getElem];exact⟨i,by simpa using hi',by simpa using hv⟩
  have:=List.count_pos_iff.2 zK;omega
 ):p:=h
theorem Zt (h:p:=by
 clear hno uN bK;go_wp2;exact ag3
 ):p:=h
theorem Y5 (h:p:=by
 exact ag3
 ):p:=h
theorem Y2 (h:p:=by
 go_wp2_with (go_at_call 236;with_reducible refine(dG.out).mono ?_);rintro e w2 ⟨rfl,h2,hk2⟩;have HF:=hid (And.intro h2 (cm.out.trans hk2));clear h2 hk2 dG cm;go_wp2;go_end0;exact⟨rfl,HF.out.1,HF.out.2⟩
 ):p:=h
theorem FP (h:p:=by
 go_enter Tryz.func65,Tryz.ntmps65;exact ag4
 ):p:=h
theorem FQ (h:p:=by
 cases ho;have aW:=Am.lo 0 ag rfl;exact TG
 ):p:=h
theorem BR (h:p:=by
 cases ho;have aW:=Am.lo 7 ag rfl;exact TG
 ):p:=h
theorem N5 (h:p:=by
 cases ho;have aW:=Am.lo 2 ag rfl;exact TG
 ):p:=h
theorem Xk (h:p:=by
 go_enter Tryz.func237,Tryz.ntmps237;go_wp2;go_ret;exact⟨rfl,fH⟩
 ):p:=h
theorem YW (h:p:=by
 go_enter Tryz.func141,Tryz.ntmps141;exact abT
 ):p:=h
theorem YX (h:p:=by
 go_enter Tryz.func65,Tryz.ntmps65;exact abT
 ):p:=h
theorem Zj (h:p:=by
 go_quiet (fail);exact ag4
 ):p:=h
theorem Y4 (h:p:=by
 go_wp2;go_roundw
 case rel=>exact⟨j+1,mS,_,by omega,by go_num,rfl,m,qg.out,Ks,nh,by rw [←TC.out];exact ZO.out⟩
 case measure=>simp [intOf];omega
 ):p:=h
theorem ZA (h:p:=by
 go_wp2;exact ag5
 ):p:=h
theorem ZC (h:p:=by
 refine Am.rv rfl rfl (hK _ _ (Below.refl _ _) rfl) ?_;generalize ca.eval=ev at*;simp [go_sem,execOp,hfn,hcs,aW,ag6]<;>first|omega|(intro hz;omega)
 ):p:=h
theorem FO (h:p:=by
 refine Am.rv rfl rfl (hK _ _ (Below.refl _ _) rfl) ?_;generalize ca.eval=ev at*;simp [go_sem,execOp,hfn,hcs,aW,zW]<;>first|omega|(intro hz;omega)
 ):p:=h
theorem NX (h:p:=by
 refine Am.rv rfl rfl (hK _ _ (Below.refl _ _) rfl) ?_;generalize ca.eval=ev at*;simp [go_sem,execOp,hfn,hcs,aW,sX]<;>first|omega|(intro hz;omega)
 ):p:=h
theorem ZP (h:p:=by
 refine Am.rv rfl rfl (hK _ _ (Below.refl _ _) rfl) ?_;generalize ca.eval=ev at*;simp [go_sem,execOp,hfn,hcs,aW,vp]<;>first|omega|(intro hz;omega)
 ):p:=h
theorem ZE (h:p:=by
 refine Am.rv rfl rfl (hK _ _ (Below.refl _ _) rfl) ?_;generalize ca.eval=ev at*;simp [go_sem,execOp,hfn,hcs,aW,cXw]<;>first|omega|(intro hz;omega)
 ):p:=h
theorem xS (h:p:=by
 refine Am.rv rfl rfl (hK _ _ (Below.refl _ _) rfl) ?_;generalize ca.eval=ev at*;simp [go_sem,execOp,hfn,hcs,aW,wk]<;>first|omega|(intro hz;omega)
 ):p:=h
theorem ZI (h:p:=by
 refine Am.rv rfl rfl (hK _ _ (Below.refl _ _) rfl) ?_;generalize ca.eval=ev at*;simp [go_sem,execOp,hfn,hcs,aW,hwd]<;>first|omega|(intro hz;omega)
 ):p:=h
theorem xR (h:p:=by
 refine Am.rv rfl rfl (hK _ _ (Below.refl _ _) rfl) ?_;exact ZQ
 ):p:=h
theorem Y7 (h:p:=by
 exact ag5
 ):p:=h
theorem Y9 (h:p:=by
 go_ret;exact⟨by rw [HR2.out];rfl,fH⟩
 ):p:=h
theorem YK (h:p:=by
 cases ho;have aW:=Am.lo 5 ag rfl;exact ab0
 ):p:=h
theorem YL (h:p:=by
 cases ho;have aW:=Am.lo 8 ag rfl;exact ab0
 ):p:=h
theorem gG (h:p:=by
 exact TG
 ):p:=h
theorem ZH (h:p:=by
 rw [rounds_succ];go_wp2;rw [rounds_succ];go_wp2;refine wp_loop_rounds 7 ?_;rw [rounds_succ];go_wp2;exact ab1
 ):p:=h
theorem YP (h:p:=by
 go_end0;exact ag7
 ):p:=h
theorem YQ (h:p:=by
 exact⟨rfl,rfl,cN⟩
 ):p:=h
theorem Zz (h:p:=by
 go_wp2;go_ret;exact⟨by rw [abD.out];rfl,dX⟩
 ):p:=h
theorem X2 (h:p:=by
 go_wp2;go_ret2;exact⟨by rw [Hb.out];rfl,dX⟩
 ):p:=h
theorem Y0 (h:p:=by
 go_wp2;go_roundw
 case rel=>exact⟨i+1,by omega,by go_num,by rw [wX.out,hq.out];exact Rn⟩
 case measure=>simp [intOf];omega
 ):p:=h
theorem NP (h:p:=by
 exact TF
 ):p:=h
theorem YU (h:p:=by
 go_ret;exact agH
 ):p:=h
theorem NH (h:p:=by
 go_wp2;go_end0;refine⟨rfl, ?_,HF.out.2⟩;rw [gy.out];exact OE
 ):p:=h
theorem Zs (h:p:=by
 go_ret2;exact⟨by rw [hd];rfl,dX⟩
 ):p:=h
theorem ZG (h:p:=by
 rw [rounds_succ];go_wp2;rw [rounds_succ];go_wp2;refine wp_loop_rounds 7 ?_;exact ab1
 ):p:=h
theorem YH (h:p:=by
 refine Am.rv rfl rfl (hK _ _ (Below.refl _ _) rfl) ?_;generalize ca.eval=ev at*;simp [go_sem,execOp,hfn,hcs,aW,hc0]
 ):p:=h
theorem ZJ (h:p:=by
 rw [rounds_succ];go_wp2;exact ZF
 ):p:=h
theorem Nv (h:p:=by
 exact ab0
 ):p:=h
theorem Y6 (h:p:=by
 generalize ca.eval=ev at*;simp [go_sem,execOp,hfn,hcs,aW,mQ,Jg,e4_]<;>first|omega|(intro hz;omega)
 ):p:=h
theorem Zx (h:p:=by
 go_wp2;go_end0;refine⟨rfl, ?_,HF.out.2⟩;exact OE
 ):p:=h
theorem ZL (h:p:=by
 exact ZM
 ):p:=h
theorem ZR (h:p:=by
 exact ZQ
 ):p:=h
theorem Mm (h:p:=by
 exact⟨rfl,dX⟩
 ):p:=h
theorem Yq (h:p:=by
 have:=hall i hlt;have hi':i<listed.size:=aa;simp [hi'] at this h4;rw [this] at h4;cases h4
 ):p:=h
theorem BP (h:p:=by
 generalize ca.eval=ev at*;simp [go_sem,execOp,hfn,hcs,aW]<;>first|omega|(intro hz;omega)
 ):p:=h
theorem ZK (h:p:=by
 go_enter Tryz.func205,Tryz.ntmps205;go_wp2;go_ret;exact⟨by rw [hR.out];rfl,bA (Below.refl _ _) _⟩
 ):p:=h
theorem NU (h:p:=by
 exact OE
 ):p:=h
theorem NT (h:p:=by
 rintro e w' ⟨rfl,hw⟩;exact⟨_,rfl,hK _ _ (hw ▸ Below.refl _ _) rfl⟩
 ):p:=h
theorem sB (h:p:=by
 rintro e w' ⟨rfl,hb'⟩;exact⟨_,rfl,hK _ _ hb' rfl⟩
 ):p:=h
theorem vA (h:p:=by
 go_wp2;go_ret;exact⟨rfl,Below.refl _ _⟩
 ):p:=h
theorem BK (h:p:=by
 simp [ByteArray.getElem_eq_getElem_data]
 ):p:=h
theorem A8 (h:p:=by
 exact⟨rfl,bG (Below.refl _ _) _⟩
 ):p:=h
theorem Bo (h:p:=by
 go_wp2;go_end0;exact⟨rfl,rfl⟩
 ):p:=h
theorem agD (h:p:=by
 have a4:((bE+j:Nat):Int)≤20000:=aa;have a5:(0:Int)≤(kk:Int):=aa;clear hJ hJ2 hdj haj;generalize hA:bE+j=A at*;have HA:=hid hA;clear hA;cases hg:nG kd c1 with
 |true=>
  go_wp2_with (first
   |(go_at_call 180;((with_reducible refine(BU kd c1 k0 yU CN _).mono ?_));rintro e w' ⟨rfl,hb⟩;obtain⟨g3,rfl⟩:=ay hb;clear hb;rw [hg])
   |(go_at_call 139;((with_reducible refine(dU _).mono ?_));rintro e w' ⟨rfl,hw⟩;rw [hw];clear hw w'))
  exact⟨⟨j+1,_,by congr 1;have:=HA.out;omega,by simp,rfl,by omega,by have:=HJ.out;rw [hg,Bool.true_and] at this;exact this⟩,by simp [intOf];omega⟩
 |false=>
  go_wp2_with (first
   |(go_at_call 180;((with_reducible refine(BU kd c1 k0 yU CN _).mono ?_));rintro e w' ⟨rfl,hb⟩;obtain⟨g3,rfl⟩:=ay hb;clear hb;rw [hg])
   |(go_at_call 139;((with_reducible refine(gW _).mono ?_));rintro e w' ⟨rfl,hw⟩;rw [hw];clear hw w'))
  have hRf:R=false:=by
   have h1:=HJ.out;rw [hg,Bool.false_and] at h1;rw [Yt.out,←h1,Bool.false_and]
  exact⟨rfl,by rw [hRf];rfl,cN⟩
 ):p:=h
theorem ag3 (h:p:=by
 go_ret2;exact⟨by rw [Hb.out];rfl,by repeat (first|exact Below.refl _ _|exact QN.out|exact jr QN.out aa|refine bG ?_ _|refine bI ?_ _ _|refine bA ?_ _|refine bD ?_|refine bN ?_ _)⟩
 ):p:=h
theorem ag4 (h:p:=by
 go_wp2;go_ret;exact⟨by rw [Hr.out];rfl,cN⟩
 ):p:=h
theorem ag5 (h:p:=by
 go_ret2;exact⟨by rw [Hb.out];rfl,cN⟩
 ):p:=h
theorem TG (h:p:=by
 refine Am.rv rfl rfl (hK _ _ (Below.refl _ _) rfl) ?_;generalize ca.eval=ev at*;simp [go_sem,execOp,hfn,hcs,aW]<;>first|omega|(intro hz;omega)
 ):p:=h
theorem abT (h:p:=by
 go_wp2;go_ret;exact ag7
 ):p:=h
theorem TF (h:p:=by
 go_wp2;go_end0;refine⟨rfl, ?_,HF.out.2⟩;rw [gy.out];have:=HF.out.1
 try simp only [ByteArray.append_assoc] at this ⊢
 exact this
 ):p:=h
theorem agH (h:p:=by
 exact⟨by rw [Hr.out];rfl,dX⟩
 ):p:=h
theorem ab0 (h:p:=by
 refine Am.rv rfl rfl (hK _ _ (Below.refl _ _) rfl) ?_;generalize ca.eval=ev at*;simp [go_sem,execOp,hfn,hcs,aW]
 ):p:=h
theorem ZM (h:p:=by
 generalize ca.eval=ev at*;simp [go_sem,execOp,hfn,hcs,aW,mQ,Jg]<;>first|omega|(intro hz;omega)
 ):p:=h
theorem ZQ (h:p:=by
 generalize ca.eval=ev at*;simp [go_sem,execOp,hfn,hcs,aW,mQ]<;>first|omega|(intro hz;omega)
 ):p:=h
theorem ZF (h:p:=by
 rw [rounds_succ];go_wp2;rw [rounds_succ];go_wp2;exact ab1
 ):p:=h
theorem OE (h:p:=by
 have:=HF.out.1;simp only [ByteArray.append_assoc] at this ⊢;exact this
 ):p:=h
theorem Fx (h:p:=by
 rw [iy _ _ _ _ _ rfl,iy _ _ _ _ _ rfl];omega
 ):p:=h
theorem ag7 (h:p:=by
 exact⟨rfl,cN⟩
 ):p:=h
theorem ab1 (h:p:=by
 rw [rounds_succ];go_wp2;go_ret;exact⟨rfl,HB.out⟩
 ):p:=h
theorem ab2 (h:p:=by
 have TH:=trivial;exact qh
 ):p:=h
theorem ab3 (h:p:=by
 have TI:=trivial;exact ED
 ):p:=h
theorem ab4 (h:p:=by
 have TJ:=trivial;exact ED
 ):p:=h
theorem ab5 (h:p:=by
 have TK:=trivial;exact ED
 ):p:=h
theorem ab6 (h:p:=by
 have TL:=trivial;exact Im
 ):p:=h
theorem ab7 (h:p:=by
 have TM:=trivial;exact qh
 ):p:=h
theorem ab8 (h:p:=by
 have TN:=trivial;exact qh
 ):p:=h
theorem ab9 (h:p:=by
 have TP:=trivial;exact ED
 ):p:=h
theorem acd (h:p:=by
 have TQ:=trivial;exact qh
 ):p:=h
theorem TR (h:p:=by
 have TS:=trivial;exact qh
 ):p:=h
theorem TT (h:p:=by
 have TU:=trivial;exact qh
 ):p:=h
theorem TV (h:p:=by
 have OG:=trivial;exact OH
 ):p:=h
theorem TW (h:p:=by
 have OI:=trivial;exact OH
 ):p:=h
theorem TX (h:p:=by
 have OJ:=trivial;exact OH
 ):p:=h
theorem TY (h:p:=by
 have TZ:=trivial;exact ED
 ):p:=h
theorem T3 (h:p:=by
 have T4:=trivial;exact Im
 ):p:=h
theorem T5 (h:p:=by
 have T6:=trivial;exact Im
 ):p:=h
theorem T7 (h:p:=by
 have T8:=trivial;exact ED
 ):p:=h
theorem T9 (h:p:=by
 have Ua:=trivial;exact Im
 ):p:=h
theorem Ub (h:p:=by
 have Uc:=trivial;exact ED
 ):p:=h
theorem Ud (h:p:=by
 have Ue:=trivial;exact Im
 ):p:=h
theorem Uf (h:p:=by
 have Ug:=trivial;exact Im
 ):p:=h
theorem jh (h:p:=by
 have OL:=trivial;exact ZT
 ):p:=h
theorem ace (h:p:=by
 have Uh:=trivial;exact Ui
 ):p:=h
theorem acf (h:p:=by
 have Uj:=trivial;exact Ui
 ):p:=h
theorem acg (h:p:=by
 have Uk:=trivial;exact Ui
 ):p:=h
theorem ach (h:p:=by
 have Ul:=trivial;exact Ui
 ):p:=h
theorem Rc (h:p:=by
 have OM:=trivial;exact ZT
 ):p:=h
theorem aci (h:p:=by
 rw [show aH 27 (⟨#[61,61]⟩:ByteArray).toList=3 by rw [ByteArray.toList_eq];rfl];go_enter Tryz.func237,Tryz.ntmps237;go_wp2_with (go_at_call 261;refine(eE _).mono ?_);rintro e w1 ⟨b0,b1,b2,b3,b4,b5,rfl,hb1,h2,h3,h4,h5⟩;have vD:w1.cell? ⟨b2,0,none⟩=some (.string ⟨#[61,61]⟩):=cD;have hX:=(hb1.block w.heap.size ak).trans (heap_alloc_new w (.cells #[.int .i64 27,.string ⟨#[61,61]⟩,.slice xp xl xc,.int .i64 aP] 56));have cX:w1.cell? ⟨w.heap.size,1,none⟩=some (.string ⟨#[61,61]⟩):=kU;have HB:=hid (show Below w.heap.size w w1 from(bA (Below.refl _ _) (.cells #[.int .i64 27,.string ⟨#[61,61]⟩,.slice xp xl xc,.int .i64 aP] 56)).trans (hb1.mono ak));clear hb1 h2 h3 h4 h5 hX c0 c1 c2 c3 hcw;go_wp2;refine wp_loop_rounds 7 ?_;rw [rounds_succ];go_wp2;refine wp_loop_rounds 7 ?_;rw [rounds_succ];go_wp2;rw [rounds_succ];go_wp2;refine wp_loop_rounds 7 ?_;exact Ox
 ):p:=h
theorem acj (h:p:=by
 rw [show aH 27 (⟨#[126,61]⟩:ByteArray).toList=3 by rw [ByteArray.toList_eq];rfl];go_enter Tryz.func237,Tryz.ntmps237;go_wp2_with (go_at_call 261;refine(eE _).mono ?_);rintro e w1 ⟨b0,b1,b2,b3,b4,b5,rfl,hb1,h2,h3,h4,h5⟩;have vD:w1.cell? ⟨b2,0,none⟩=some (.string ⟨#[61,61]⟩):=cD;have wM:w1.cell? ⟨b2,1,none⟩=some (.string ⟨#[126,61]⟩):=cD;have hX:=(hb1.block w.heap.size ak).trans (heap_alloc_new w (.cells #[.int .i64 27,.string ⟨#[126,61]⟩,.slice xp xl xc,.int .i64 aP] 56));have cX:w1.cell? ⟨w.heap.size,1,none⟩=some (.string ⟨#[126,61]⟩):=kU;have HB:=hid (show Below w.heap.size w w1 from(bA (Below.refl _ _) (.cells #[.int .i64 27,.string ⟨#[126,61]⟩,.slice xp xl xc,.int .i64 aP] 56)).trans (hb1.mono ak));clear hb1 h2 h3 h4 h5 hX c0 c1 c2 c3 hcw;go_wp2;refine wp_loop_rounds 7 ?_;rw [rounds_succ];go_wp2;refine wp_loop_rounds 7 ?_;rw [rounds_succ];go_wp2;rw [rounds_succ];go_wp2;refine wp_loop_rounds 7 ?_;exact ZH
 ):p:=h
theorem ack (h:p:=by
 rw [show aH 27 (⟨#[60]⟩:ByteArray).toList=3 by rw [ByteArray.toList_eq];rfl];go_enter Tryz.func237,Tryz.ntmps237;go_wp2_with (go_at_call 261;refine(eE _).mono ?_);rintro e w1 ⟨b0,b1,b2,b3,b4,b5,rfl,hb1,h2,h3,h4,h5⟩;have vD:w1.cell? ⟨b2,0,none⟩=some (.string ⟨#[61,61]⟩):=cD;have wM:w1.cell? ⟨b2,1,none⟩=some (.string ⟨#[126,61]⟩):=cD;have zX:w1.cell? ⟨b2,2,none⟩=some (.string ⟨#[60]⟩):=cD;have hX:=(hb1.block w.heap.size ak).trans (heap_alloc_new w (.cells #[.int .i64 27,.string ⟨#[60]⟩,.slice xp xl xc,.int .i64 aP] 56));have cX:w1.cell? ⟨w.heap.size,1,none⟩=some (.string ⟨#[60]⟩):=kU;have HB:=hid (show Below w.heap.size w w1 from(bA (Below.refl _ _) (.cells #[.int .i64 27,.string ⟨#[60]⟩,.slice xp xl xc,.int .i64 aP] 56)).trans (hb1.mono ak));clear hb1 h2 h3 h4 h5 hX c0 c1 c2 c3 hcw;go_wp2;refine wp_loop_rounds 7 ?_;rw [rounds_succ];go_wp2;refine wp_loop_rounds 7 ?_;rw [rounds_succ];go_wp2;rw [rounds_succ];go_wp2;refine wp_loop_rounds 7 ?_;exact N8
 ):p:=h
theorem acm (h:p:=by
 rw [show aH 27 (⟨#[60,61]⟩:ByteArray).toList=3 by rw [ByteArray.toList_eq];rfl];go_enter Tryz.func237,Tryz.ntmps237;go_wp2_with (go_at_call 261;refine(eE _).mono ?_);rintro e w1 ⟨b0,b1,b2,b3,b4,b5,rfl,hb1,h2,h3,h4,h5⟩;have vD:w1.cell? ⟨b2,0,none⟩=some (.string ⟨#[61,61]⟩):=cD;have wM:w1.cell? ⟨b2,1,none⟩=some (.string ⟨#[126,61]⟩):=cD;have zX:w1.cell? ⟨b2,2,none⟩=some (.string ⟨#[60]⟩):=cD;have BV:w1.cell? ⟨b2,3,none⟩=some (.string ⟨#[60,61]⟩):=cD;have hX:=(hb1.block w.heap.size ak).trans (heap_alloc_new w (.cells #[.int .i64 27,.string ⟨#[60,61]⟩,.slice xp xl xc,.int .i64 aP] 56));have cX:w1.cell? ⟨w.heap.size,1,none⟩=some (.string ⟨#[60,61]⟩):=kU;have HB:=hid (show Below w.heap.size w w1 from(bA (Below.refl _ _) (.cells #[.int .i64 27,.string ⟨#[60,61]⟩,.slice xp xl xc,.int .i64 aP] 56)).trans (hb1.mono ak));clear hb1 h2 h3 h4 h5 hX c0 c1 c2 c3 hcw;go_wp2;refine wp_loop_rounds 7 ?_;rw [rounds_succ];go_wp2;refine wp_loop_rounds 7 ?_;rw [rounds_succ];go_wp2;rw [rounds_succ];go_wp2;refine wp_loop_rounds 7 ?_;rw [rounds_succ];go_wp2;rw [rounds_succ];go_wp2;refine wp_loop_rounds 7 ?_;exact ZJ
 ):p:=h
theorem acn (h:p:=by
 rw [show aH 27 (⟨#[62]⟩:ByteArray).toList=3 by rw [ByteArray.toList_eq];rfl];go_enter Tryz.func237,Tryz.ntmps237;go_wp2_with (go_at_call 261;refine(eE _).mono ?_);rintro e w1 ⟨b0,b1,b2,b3,b4,b5,rfl,hb1,h2,h3,h4,h5⟩;have vD:w1.cell? ⟨b2,0,none⟩=some (.string ⟨#[61,61]⟩):=cD;have wM:w1.cell? ⟨b2,1,none⟩=some (.string ⟨#[126,61]⟩):=cD;have zX:w1.cell? ⟨b2,2,none⟩=some (.string ⟨#[60]⟩):=cD;have BV:w1.cell? ⟨b2,3,none⟩=some (.string ⟨#[60,61]⟩):=cD;have EE:w1.cell? ⟨b2,4,none⟩=some (.string ⟨#[62]⟩):=cD;have hX:=(hb1.block w.heap.size ak).trans (heap_alloc_new w (.cells #[.int .i64 27,.string ⟨#[62]⟩,.slice xp xl xc,.int .i64 aP] 56));have cX:w1.cell? ⟨w.heap.size,1,none⟩=some (.string ⟨#[62]⟩):=kU;have HB:=hid (show Below w.heap.size w w1 from(bA (Below.refl _ _) (.cells #[.int .i64 27,.string ⟨#[62]⟩,.slice xp xl xc,.int .i64 aP] 56)).trans (hb1.mono ak));clear hb1 h2 h3 h4 h5 hX c0 c1 c2 c3 hcw;go_wp2;refine wp_loop_rounds 7 ?_;rw [rounds_succ];go_wp2;refine wp_loop_rounds 7 ?_;rw [rounds_succ];go_wp2;rw [rounds_succ];go_wp2;refine wp_loop_rounds 7 ?_;rw [rounds_succ];go_wp2;rw [rounds_succ];go_wp2;refine wp_loop_rounds 7 ?_;exact Om
 ):p:=h
theorem aco (h:p:=by
 rw [show aH 27 (⟨#[62,61]⟩:ByteArray).toList=3 by rw [ByteArray.toList_eq];rfl];go_enter Tryz.func237,Tryz.ntmps237;go_wp2_with (go_at_call 261;refine(eE _).mono ?_);rintro e w1 ⟨b0,b1,b2,b3,b4,b5,rfl,hb1,h2,h3,h4,h5⟩;have vD:w1.cell? ⟨b2,0,none⟩=some (.string ⟨#[61,61]⟩):=cD;have wM:w1.cell? ⟨b2,1,none⟩=some (.string ⟨#[126,61]⟩):=cD;have zX:w1.cell? ⟨b2,2,none⟩=some (.string ⟨#[60]⟩):=cD;have BV:w1.cell? ⟨b2,3,none⟩=some (.string ⟨#[60,61]⟩):=cD;have EE:w1.cell? ⟨b2,4,none⟩=some (.string ⟨#[62]⟩):=cD;have Io:w1.cell? ⟨b2,5,none⟩=some (.string ⟨#[62,61]⟩):=cD;have hX:=(hb1.block w.heap.size ak).trans (heap_alloc_new w (.cells #[.int .i64 27,.string ⟨#[62,61]⟩,.slice xp xl xc,.int .i64 aP] 56));have cX:w1.cell? ⟨w.heap.size,1,none⟩=some (.string ⟨#[62,61]⟩):=kU;have HB:=hid (show Below w.heap.size w w1 from(bA (Below.refl _ _) (.cells #[.int .i64 27,.string ⟨#[62,61]⟩,.slice xp xl xc,.int .i64 aP] 56)).trans (hb1.mono ak));clear hb1 h2 h3 h4 h5 hX c0 c1 c2 c3 hcw;go_wp2;refine wp_loop_rounds 7 ?_;rw [rounds_succ];go_wp2;refine wp_loop_rounds 7 ?_;rw [rounds_succ];go_wp2;rw [rounds_succ];go_wp2;refine wp_loop_rounds 7 ?_;rw [rounds_succ];go_wp2;rw [rounds_succ];go_wp2;refine wp_loop_rounds 7 ?_;rw [rounds_succ];go_wp2;exact Om
 ):p:=h
theorem acp (h:p:=by
 rw [show aH 27 (⟨#[46,46]⟩:ByteArray).toList=4 by rw [ByteArray.toList_eq];rfl];go_enter Tryz.func237,Tryz.ntmps237;go_wp2_with (go_at_call 261;refine(eE _).mono ?_);rintro e w1 ⟨b0,b1,b2,b3,b4,b5,rfl,hb1,h2,h3,h4,h5⟩;have vD:w1.cell? ⟨b2,0,none⟩=some (.string ⟨#[61,61]⟩):=cD;have wM:w1.cell? ⟨b2,1,none⟩=some (.string ⟨#[126,61]⟩):=cD;have zX:w1.cell? ⟨b2,2,none⟩=some (.string ⟨#[60]⟩):=cD;have BV:w1.cell? ⟨b2,3,none⟩=some (.string ⟨#[60,61]⟩):=cD;have EE:w1.cell? ⟨b2,4,none⟩=some (.string ⟨#[62]⟩):=cD;have Io:w1.cell? ⟨b2,5,none⟩=some (.string ⟨#[62,61]⟩):=cD;have OO:w1.cell? ⟨b3,0,none⟩=some (.string ⟨#[46,46]⟩):=xV;have hX:=(hb1.block w.heap.size ak).trans (heap_alloc_new w (.cells #[.int .i64 27,.string ⟨#[46,46]⟩,.slice xp xl xc,.int .i64 aP] 56));have cX:w1.cell? ⟨w.heap.size,1,none⟩=some (.string ⟨#[46,46]⟩):=kU;have HB:=hid (show Below w.heap.size w w1 from(bA (Below.refl _ _) (.cells #[.int .i64 27,.string ⟨#[46,46]⟩,.slice xp xl xc,.int .i64 aP] 56)).trans (hb1.mono ak));clear hb1 h2 h3 h4 h5 hX c0 c1 c2 c3 hcw;go_wp2;refine wp_loop_rounds 7 ?_;rw [rounds_succ];go_wp2;refine wp_loop_rounds 7 ?_;rw [rounds_succ];go_wp2;rw [rounds_succ];go_wp2;refine wp_loop_rounds 7 ?_;rw [rounds_succ];go_wp2;rw [rounds_succ];go_wp2;refine wp_loop_rounds 7 ?_;rw [rounds_succ];go_wp2;rw [rounds_succ];go_wp2;rw [rounds_succ];go_wp2;rw [rounds_succ];go_wp2;exact N9
 ):p:=h
theorem acq (h:p:=by
 rw [show aH 27 (⟨#[43]⟩:ByteArray).toList=5 by rw [ByteArray.toList_eq];rfl];go_enter Tryz.func237,Tryz.ntmps237;go_wp2_with (go_at_call 261;refine(eE _).mono ?_);rintro e w1 ⟨b0,b1,b2,b3,b4,b5,rfl,hb1,h2,h3,h4,h5⟩;have vD:w1.cell? ⟨b2,0,none⟩=some (.string ⟨#[61,61]⟩):=cD;have wM:w1.cell? ⟨b2,1,none⟩=some (.string ⟨#[126,61]⟩):=cD;have zX:w1.cell? ⟨b2,2,none⟩=some (.string ⟨#[60]⟩):=cD;have BV:w1.cell? ⟨b2,3,none⟩=some (.string ⟨#[60,61]⟩):=cD;have EE:w1.cell? ⟨b2,4,none⟩=some (.string ⟨#[62]⟩):=cD;have Io:w1.cell? ⟨b2,5,none⟩=some (.string ⟨#[62,61]⟩):=cD;have OO:w1.cell? ⟨b3,0,none⟩=some (.string ⟨#[46,46]⟩):=xV;have Um:w1.cell? ⟨b4,0,none⟩=some (.string ⟨#[43]⟩):=qi;have hX:=(hb1.block w.heap.size ak).trans (heap_alloc_new w (.cells #[.int .i64 27,.string ⟨#[43]⟩,.slice xp xl xc,.int .i64 aP] 56));have cX:w1.cell? ⟨w.heap.size,1,none⟩=some (.string ⟨#[43]⟩):=kU;have HB:=hid (show Below w.heap.size w w1 from(bA (Below.refl _ _) (.cells #[.int .i64 27,.string ⟨#[43]⟩,.slice xp xl xc,.int .i64 aP] 56)).trans (hb1.mono ak));clear hb1 h2 h3 h4 h5 hX c0 c1 c2 c3 hcw;go_wp2;refine wp_loop_rounds 7 ?_;rw [rounds_succ];go_wp2;refine wp_loop_rounds 7 ?_;rw [rounds_succ];go_wp2;rw [rounds_succ];go_wp2;refine wp_loop_rounds 7 ?_;rw [rounds_succ];go_wp2;rw [rounds_succ];go_wp2;refine wp_loop_rounds 7 ?_;rw [rounds_succ];go_wp2;rw [rounds_succ];go_wp2;rw [rounds_succ];go_wp2;rw [rounds_succ];go_wp2;rw [rounds_succ];go_wp2;rw [rounds_succ];go_wp2;rw [rounds_succ];go_wp2;rw [rounds_succ];go_wp2;refine wp_loop_rounds 7 ?_;rw [rounds_succ];go_wp2;exact Ox
 ):p:=h
theorem acr (h:p:=by
 rw [show aH 27 (⟨#[45]⟩:ByteArray).toList=5 by rw [ByteArray.toList_eq];rfl];go_enter Tryz.func237,Tryz.ntmps237;go_wp2_with (go_at_call 261;refine(eE _).mono ?_);rintro e w1 ⟨b0,b1,b2,b3,b4,b5,rfl,hb1,h2,h3,h4,h5⟩;have vD:w1.cell? ⟨b2,0,none⟩=some (.string ⟨#[61,61]⟩):=cD;have wM:w1.cell? ⟨b2,1,none⟩=some (.string ⟨#[126,61]⟩):=cD;have zX:w1.cell? ⟨b2,2,none⟩=some (.string ⟨#[60]⟩):=cD;have BV:w1.cell? ⟨b2,3,none⟩=some (.string ⟨#[60,61]⟩):=cD;have EE:w1.cell? ⟨b2,4,none⟩=some (.string ⟨#[62]⟩):=cD;have Io:w1.cell? ⟨b2,5,none⟩=some (.string ⟨#[62,61]⟩):=cD;have OO:w1.cell? ⟨b3,0,none⟩=some (.string ⟨#[46,46]⟩):=xV;have Um:w1.cell? ⟨b4,0,none⟩=some (.string ⟨#[43]⟩):=qi;have acs:w1.cell? ⟨b4,1,none⟩=some (.string ⟨#[45]⟩):=qi;have hX:=(hb1.block w.heap.size ak).trans (heap_alloc_new w (.cells #[.int .i64 27,.string ⟨#[45]⟩,.slice xp xl xc,.int .i64 aP] 56));have cX:w1.cell? ⟨w.heap.size,1,none⟩=some (.string ⟨#[45]⟩):=kU;have HB:=hid (show Below w.heap.size w w1 from(bA (Below.refl _ _) (.cells #[.int .i64 27,.string ⟨#[45]⟩,.slice xp xl xc,.int .i64 aP] 56)).trans (hb1.mono ak));clear hb1 h2 h3 h4 h5 hX c0 c1 c2 c3 hcw;go_wp2;refine wp_loop_rounds 7 ?_;rw [rounds_succ];go_wp2;refine wp_loop_rounds 7 ?_;rw [rounds_succ];go_wp2;rw [rounds_succ];go_wp2;refine wp_loop_rounds 7 ?_;rw [rounds_succ];go_wp2;rw [rounds_succ];go_wp2;refine wp_loop_rounds 7 ?_;rw [rounds_succ];go_wp2;rw [rounds_succ];go_wp2;rw [rounds_succ];go_wp2;rw [rounds_succ];go_wp2;rw [rounds_succ];go_wp2;rw [rounds_succ];go_wp2;rw [rounds_succ];go_wp2;rw [rounds_succ];go_wp2;refine wp_loop_rounds 7 ?_;exact Oa
 ):p:=h
theorem Un (h:p:=by
 rw [show aH 27 (⟨#[42]⟩:ByteArray).toList=6 by rw [ByteArray.toList_eq];rfl];go_enter Tryz.func237,Tryz.ntmps237;go_wp2_with (go_at_call 261;refine(eE _).mono ?_);rintro e w1 ⟨b0,b1,b2,b3,b4,b5,rfl,hb1,h2,h3,h4,h5⟩;have vD:w1.cell? ⟨b2,0,none⟩=some (.string ⟨#[61,61]⟩):=cD;have wM:w1.cell? ⟨b2,1,none⟩=some (.string ⟨#[126,61]⟩):=cD;have zX:w1.cell? ⟨b2,2,none⟩=some (.string ⟨#[60]⟩):=cD;have BV:w1.cell? ⟨b2,3,none⟩=some (.string ⟨#[60,61]⟩):=cD;have EE:w1.cell? ⟨b2,4,none⟩=some (.string ⟨#[62]⟩):=cD;have Io:w1.cell? ⟨b2,5,none⟩=some (.string ⟨#[62,61]⟩):=cD;have OO:w1.cell? ⟨b3,0,none⟩=some (.string ⟨#[46,46]⟩):=xV;have Um:w1.cell? ⟨b4,0,none⟩=some (.string ⟨#[43]⟩):=qi;have acs:w1.cell? ⟨b4,1,none⟩=some (.string ⟨#[45]⟩):=qi;have ag8:w1.cell? ⟨b5,0,none⟩=some (.string ⟨#[42]⟩):=xW;have hX:=(hb1.block w.heap.size ak).trans (heap_alloc_new w (.cells #[.int .i64 27,.string ⟨#[42]⟩,.slice xp xl xc,.int .i64 aP] 56));have cX:w1.cell? ⟨w.heap.size,1,none⟩=some (.string ⟨#[42]⟩):=kU;have HB:=hid (show Below w.heap.size w w1 from(bA (Below.refl _ _) (.cells #[.int .i64 27,.string ⟨#[42]⟩,.slice xp xl xc,.int .i64 aP] 56)).trans (hb1.mono ak));clear hb1 h2 h3 h4 h5 hX c0 c1 c2 c3 hcw;go_wp2;refine wp_loop_rounds 7 ?_;rw [rounds_succ];go_wp2;refine wp_loop_rounds 7 ?_;rw [rounds_succ];go_wp2;rw [rounds_succ];go_wp2;refine wp_loop_rounds 7 ?_;rw [rounds_succ];go_wp2;rw [rounds_succ];go_wp2;refine wp_loop_rounds 7 ?_;rw [rounds_succ];go_wp2;rw [rounds_succ];go_wp2;rw [rounds_succ];go_wp2;rw [rounds_succ];go_wp2;rw [rounds_succ];go_wp2;rw [rounds_succ];go_wp2;rw [rounds_succ];go_wp2;rw [rounds_succ];go_wp2;refine wp_loop_rounds 7 ?_;rw [rounds_succ];go_wp2;rw [rounds_succ];go_wp2;rw [rounds_succ];go_wp2;refine wp_loop_rounds 7 ?_;exact N9
 ):p:=h
theorem Uo (h:p:=by
 rw [show aH 27 (⟨#[47,47]⟩:ByteArray).toList=6 by rw [ByteArray.toList_eq];rfl];go_enter Tryz.func237,Tryz.ntmps237;go_wp2_with (go_at_call 261;refine(eE _).mono ?_);rintro e w1 ⟨b0,b1,b2,b3,b4,b5,rfl,hb1,h2,h3,h4,h5⟩;have vD:w1.cell? ⟨b2,0,none⟩=some (.string ⟨#[61,61]⟩):=cD;have wM:w1.cell? ⟨b2,1,none⟩=some (.string ⟨#[126,61]⟩):=cD;have zX:w1.cell? ⟨b2,2,none⟩=some (.string ⟨#[60]⟩):=cD;have BV:w1.cell? ⟨b2,3,none⟩=some (.string ⟨#[60,61]⟩):=cD;have EE:w1.cell? ⟨b2,4,none⟩=some (.string ⟨#[62]⟩):=cD;have Io:w1.cell? ⟨b2,5,none⟩=some (.string ⟨#[62,61]⟩):=cD;have OO:w1.cell? ⟨b3,0,none⟩=some (.string ⟨#[46,46]⟩):=xV;have Um:w1.cell? ⟨b4,0,none⟩=some (.string ⟨#[43]⟩):=qi;have acs:w1.cell? ⟨b4,1,none⟩=some (.string ⟨#[45]⟩):=qi;have ag8:w1.cell? ⟨b5,0,none⟩=some (.string ⟨#[42]⟩):=xW;have aki:w1.cell? ⟨b5,1,none⟩=some (.string ⟨#[47,47]⟩):=xW;have hX:=(hb1.block w.heap.size ak).trans (heap_alloc_new w (.cells #[.int .i64 27,.string ⟨#[47,47]⟩,.slice xp xl xc,.int .i64 aP] 56));have cX:w1.cell? ⟨w.heap.size,1,none⟩=some (.string ⟨#[47,47]⟩):=kU;have HB:=hid (show Below w.heap.size w w1 from(bA (Below.refl _ _) (.cells #[.int .i64 27,.string ⟨#[47,47]⟩,.slice xp xl xc,.int .i64 aP] 56)).trans (hb1.mono ak));clear hb1 h2 h3 h4 h5 hX c0 c1 c2 c3 hcw;go_wp2;refine wp_loop_rounds 7 ?_;rw [rounds_succ];go_wp2;refine wp_loop_rounds 7 ?_;rw [rounds_succ];go_wp2;rw [rounds_succ];go_wp2;refine wp_loop_rounds 7 ?_;rw [rounds_succ];go_wp2;rw [rounds_succ];go_wp2;refine wp_loop_rounds 7 ?_;rw [rounds_succ];go_wp2;rw [rounds_succ];go_wp2;rw [rounds_succ];go_wp2;rw [rounds_succ];go_wp2;rw [rounds_succ];go_wp2;rw [rounds_succ];go_wp2;rw [rounds_succ];go_wp2;rw [rounds_succ];go_wp2;refine wp_loop_rounds 7 ?_;rw [rounds_succ];go_wp2;rw [rounds_succ];go_wp2;rw [rounds_succ];go_wp2;refine wp_loop_rounds 7 ?_;rw [rounds_succ];go_wp2;exact Oa
 ):p:=h
theorem Up (h:p:=by
 rw [show aH 27 (⟨#[37]⟩:ByteArray).toList=6 by rw [ByteArray.toList_eq];rfl];go_enter Tryz.func237,Tryz.ntmps237;go_wp2_with (go_at_call 261;refine(eE _).mono ?_);rintro e w1 ⟨b0,b1,b2,b3,b4,b5,rfl,hb1,h2,h3,h4,h5⟩;have vD:w1.cell? ⟨b2,0,none⟩=some (.string ⟨#[61,61]⟩):=cD;have wM:w1.cell? ⟨b2,1,none⟩=some (.string ⟨#[126,61]⟩):=cD;have zX:w1.cell? ⟨b2,2,none⟩=some (.string ⟨#[60]⟩):=cD;have BV:w1.cell? ⟨b2,3,none⟩=some (.string ⟨#[60,61]⟩):=cD;have EE:w1.cell? ⟨b2,4,none⟩=some (.string ⟨#[62]⟩):=cD;have Io:w1.cell? ⟨b2,5,none⟩=some (.string ⟨#[62,61]⟩):=cD;have OO:w1.cell? ⟨b3,0,none⟩=some (.string ⟨#[46,46]⟩):=xV;have Um:w1.cell? ⟨b4,0,none⟩=some (.string ⟨#[43]⟩):=qi;have acs:w1.cell? ⟨b4,1,none⟩=some (.string ⟨#[45]⟩):=qi;have ag8:w1.cell? ⟨b5,0,none⟩=some (.string ⟨#[42]⟩):=xW;have aki:w1.cell? ⟨b5,1,none⟩=some (.string ⟨#[47,47]⟩):=xW;have anA:w1.cell? ⟨b5,2,none⟩=some (.string ⟨#[37]⟩):=xW;have hX:=(hb1.block w.heap.size ak).trans (heap_alloc_new w (.cells #[.int .i64 27,.string ⟨#[37]⟩,.slice xp xl xc,.int .i64 aP] 56));have cX:w1.cell? ⟨w.heap.size,1,none⟩=some (.string ⟨#[37]⟩):=kU;have HB:=hid (show Below w.heap.size w w1 from(bA (Below.refl _ _) (.cells #[.int .i64 27,.string ⟨#[37]⟩,.slice xp xl xc,.int .i64 aP] 56)).trans (hb1.mono ak));clear hb1 h2 h3 h4 h5 hX c0 c1 c2 c3 hcw;go_wp2;refine wp_loop_rounds 7 ?_;rw [rounds_succ];go_wp2;refine wp_loop_rounds 7 ?_;rw [rounds_succ];go_wp2;rw [rounds_succ];go_wp2;refine wp_loop_rounds 7 ?_;rw [rounds_succ];go_wp2;rw [rounds_succ];go_wp2;refine wp_loop_rounds 7 ?_;rw [rounds_succ];go_wp2;rw [rounds_succ];go_wp2;rw [rounds_succ];go_wp2;rw [rounds_succ];go_wp2;rw [rounds_succ];go_wp2;rw [rounds_succ];go_wp2;rw [rounds_succ];go_wp2;rw [rounds_succ];go_wp2;refine wp_loop_rounds 7 ?_;rw [rounds_succ];go_wp2;rw [rounds_succ];go_wp2;rw [rounds_succ];go_wp2;refine wp_loop_rounds 7 ?_;rw [rounds_succ];go_wp2;rw [rounds_succ];go_wp2;exact N8
 ):p:=h
theorem sN (h:p:=by
 obtain⟨b,o,hp,hlt,c0,c1,c2,c3⟩:=bL hN hW.below hm;have hl:(m:Int)<(ns.length:Int):=aa;have hBl:=hW.size;have hcw:=hW.cell0;clear hW hN ht;generalize ns[m]=x at*;obtain⟨xk,xt,xp,xc,aK,aP⟩:=x;simp only at c0 c1 c2 c3 hk hx ⊢;subst hp;clear hm;generalize ns.length=L at*;generalize aK.length=xl at*;subst hk hx
 first
 |(have:=QW;exact aci)
 |(have:=QX;exact acj)
 |(have:=QY;exact ack)
 |(have:=QZ;exact acm)
 |(have:=Q0;exact acn)
 |(have:=Q2;exact aco)
 |(have:=Q3;exact acp)
 |(have:=Q4;exact acq)
 |(have:=Q5;exact acr)
 |(have:=Jq;exact Un)
 |(have:=Jr;exact Uo)
 |(have:=Js;exact Up)
 ):p:=h
theorem acu (h:p:=by
 obtain⟨R,hR⟩:∃R,R=aQ ns E K S ns[m] d:=⟨_,rfl⟩;rw [←hR] at hsz ⊢;have hX:R=E (ns[m].kids.getD 0 0) d:=nW;have iY:ns[m].text.size≤4000:=aT.2;have aj:=hsz;rw [hX] at aj;have dm:=hid (fun w hb2=>hE (ns[m].kids.getD 0 0) d w hb2 eA.1 aa aa aa);generalize E (ns[m].kids.getD 0 0) d=s0 at*;generalize ns[m].kids.getD 0 0=k0 at*;have HX:=hid hX;have HB:=hid hb;clear hE hK hS hR hX hN ht hv aT aJ hsz bK hb hf eA;generalize ns[m]=x at*;obtain⟨xk,xt,xp,xc,aK,aP⟩:=x;simp only at c0 c1 c2 c3 hk iY HX bu bf dY;subst hk hp;subst bf;rw [Nat.add_zero] at dQ;generalize ns.length=L at*;generalize aK.length=xl at*;go_enter Tryz.func97,Tryz.ntmps97;go_wp2_with (first|(go_at_call 150;((with_reducible refine(dm.out _ rV).mono ?_));rintro e w' ⟨rfl,hb1⟩;obtain⟨G,rfl⟩:=ay hb1;clear hb1));exact Oh
 ):p:=h
theorem acv (h:p:=by
 have Uq:=trivial;exact EF
 ):p:=h
theorem acw (h:p:=by
 obtain⟨R,hR⟩:∃R,R=aQ ns E K S ns[m] d:=⟨_,rfl⟩;rw [←hR] at hsz ⊢;have hX:R=(⟨#[102,117,110,99,116,105,111,110,32]⟩:ByteArray)++ns[m].text++kQ ns K S (ns[m].kids.getD 0 0) d:=nW;have iY:ns[m].text.size≤4000:=aT.2;obtain⟨z,hz⟩:∃z:Nat,ns[m].kids.getD 0 0=z:=⟨(ns[m].kids.getD 0 0).toNat,by omega⟩;have hzl:z<ns.length:=aa;have Du:ns[z].kind=22:=by
  have h:=jR (c:=102) (f:=[]) hf ai ai ai bu;exact K6
 have Dv:kQ ns K S (ns[m].kids.getD 0 0) d=fG ns K S ns[z] d:=by unfold kQ;rw [hz,Int.toNat_natCast,List.getElem?_eq_getElem hzl]
 rw [Dv] at hX;have aj:=hsz;rw [hX] at aj;simp only [ByteArray.size_append] at aj;have dm:=hid (fun w hb2=>BW ht hN aJ hK hS z d w hb2 aa hzl aa Du aa);generalize fG ns K S ns[z] d=s0 at*;rw [hz] at dQ eA;clear Dv hz Du hzl;have HX:=hid hX;have HB:=hid hb;clear hE hK hS hR hX hN ht hv aT aJ hsz bK hb hf eA;generalize ns[m]=x at*;obtain⟨xk,xt,xp,xc,aK,aP⟩:=x;simp only at c0 c1 c2 c3 hk iY HX bu bf dY;subst hk hp;subst bf;rw [Nat.add_zero] at dQ;generalize ns.length=L at*;generalize aK.length=xl at*;obtain⟨wz,cV⟩:∃wz,wz=W'.alloc (.cells #[.int .i64 5,.string xt,.slice (some ⟨aq,aU,none⟩) xl xc,.int .i64 aP] 56):=⟨_,rfl⟩;have ji:=hid (show Below W.heap.size W wz by rw [cV];exact bA HB.out _);have dh:=hid (show Below W'.heap.size W' wz by rw [cV];exact bA (Below.refl _ _) _);have iE:=(show wz.heap[W'.heap.size]?=some (.cells #[.int .i64 5,.string xt,.slice (some ⟨aq,aU,none⟩) xl xc,.int .i64 aP] 56 (0,0)) by rw [cV];exact heap_alloc_new _ _);have F1:=hid (show wz.cell? ⟨W'.heap.size,1,none⟩=some (.string xt) by simp [World.cell?,iE]);have F2:=hid (show wz.cell? ⟨W'.heap.size,2,none⟩=some (.slice (some ⟨aq,aU,none⟩) xl xc) by simp [World.cell?,iE]);have LX:=hid (Array.getElem?_eq_some_iff.1 iE).1;have G0:=hid ((dh.out.cell (p:=⟨aq,_,none⟩) aS).trans dQ);have LK:=hid (Nat.lt_of_lt_of_le aS dh.out.size);have jb:=hid cV;clear cV iE;go_enter Tryz.func97,Tryz.ntmps97;go_wp2;rw [←jb.out];clear jb;refine Am.eV (Φ:=Am.pJ [.pointer (some ⟨W'.heap.size,1,none⟩),.string xt,.string ((⟨#[102,117,110,99,116,105,111,110,32]⟩:ByteArray)++xt),.slice (some ⟨b,o,none⟩) L c,.pointer (some ⟨W'.heap.size,2,none⟩),.slice (some ⟨aq,aU,none⟩) xl xc,.pointer (some ⟨aq,aU,none⟩),.int .i64 ((z:Int)),.int .i64 ((d:Int)),.string s0,.string ((⟨#[102,117,110,99,116,105,111,110,32]⟩:ByteArray)++xt++s0),.string ((⟨#[102,117,110,99,116,105,111,110,32]⟩:ByteArray)++xt++s0)]) ah ah ah Am.cS ?_ ?_
 ·have Ur:=trivial;exact ag9
 ·intro ca w1 hb hd hs bV cQ;have h6:ca.tmps.getD 6 undef=.string ((⟨#[102,117,110,99,116,105,111,110,32]⟩:ByteArray)++xt++s0):=bV 11 _ 6 rfl rfl;exact xQ
 ):p:=h
theorem acy (h:p:=by
 have Us:=trivial;exact EF
 ):p:=h
theorem acz (h:p:=by
 obtain⟨R,hR⟩:∃R,R=aQ ns E K S ns[m] d:=⟨_,rfl⟩;rw [←hR] at hsz ⊢;have hX:R=(if aB ns (ns[m].kids.getD 0 0)=12 then⟨#[114,101,116,117,114,110]⟩ else(⟨#[114,101,116,117,114,110,32]⟩:ByteArray)++E (ns[m].kids.getD 0 0) d):=nW;have iY:ns[m].text.size≤4000:=aT.2;obtain⟨z,hz⟩:∃z:Nat,ns[m].kids.getD 0 0=z:=⟨(ns[m].kids.getD 0 0).toNat,by omega⟩;have hzl:z<ns.length:=aa;have ZU:(z:Int)<(ns.length:Int):=aa;obtain⟨b',o',xX,EG,dz0,dz1,dz2,dz3⟩:=bL hN hb hzl;rw [hp] at xX;cases xX;have Ay:aB ns (ns[m].kids.getD 0 0)=ns[z].kind:=OP;rw [Ay] at hX;have hs0:ns[z].kind≠12→(E (ns[m].kids.getD 0 0) d).size≤1000000000 - 7:=fun h=>by
  rw [hX,if_neg h,ByteArray.size_append] at hsz;have e:(⟨#[114,101,116,117,114,110,32]⟩:ByteArray).size=7:=rfl;omega
 have dm:=hid (fun(h:ns[z].kind≠12) w hb2=>hE (ns[m].kids.getD 0 0) d w hb2 eA.1 aa aa (by have:=hs0 h;omega));have CF:=hid hs0;rw [hz] at dm CF hX eA;clear hs0;generalize E (z:Int) d=s0 at*;have HX:=hid hX;have HB:=hid hb;rw [hz] at dQ;generalize ns[z].kind=zk at*;clear Ay dz1 dz2 dz3 EG hz hzl;clear hE hK hS hR hX hN ht hv aT aJ hsz bK hb hf eA;generalize ns[m]=x at*;obtain⟨xk,xt,xp,xc,aK,aP⟩:=x;simp only at c0 c1 c2 c3 hk iY HX bu bf dY;subst hk hp;subst bf;rw [Nat.add_zero] at dQ;generalize ns.length=L at*;generalize aK.length=xl at*;by_cases fV:zk=12
 ·subst fV;have kK:=hid (show R=_ from HX.out.trans (if_pos rfl));clear HX dm CF;go_enter Tryz.func97,Tryz.ntmps97;go_wp2;exact Og
 ·have Ut:(zk==12)=false:=by simp [fV]
  have QB:(zk !=12)=true:=by simp [fV]
  have kK:=hid (show R=_ from HX.out.trans (if_neg fV));have HCZ:=hid (dm.out fV);have Uu:=CF.out fV;clear HX dm CF;go_enter Tryz.func97,Tryz.ntmps97;go_wp2_with (first|(go_at_call 150;((with_reducible refine(HCZ.out _ rV).mono ?_));rintro e w' ⟨rfl,hb1⟩;obtain⟨G,rfl⟩:=ay hb1;clear hb1));exact Og
 ):p:=h
theorem acA (h:p:=by
 have Uv:=trivial;exact EF
 ):p:=h
theorem acB (h:p:=by
 have Uw:=trivial;exact EF
 ):p:=h
theorem D4 (h:p:=by
 obtain⟨b,o,hp,hlt,c0,c1,c2,c3⟩:=bL hN hb hm;have hv:=ht.all m ns[m] hm (List.getElem?_eq_getElem hm);have bK:=bM hv;rw [hk] at bK;have hf:=hv.fits;rw [hk] at hf;have aT:=ht.few.2 ns[m] (List.getElem_mem hm);have hl:(m:Int)<(ns.length:Int):=aa;have XS:(d:Int)≤2000:=aa;have bu:0<ns[m].kids.length:=Nat.lt_of_lt_of_le ai bK;obtain⟨aq,aU,bf,aS,dQ⟩:=cC hN hb hm bu;have eA:=cE ht (List.getElem?_eq_getElem hm) bu;have dY:(0:Int)<(ns[m].kids.length:Int):=aa
 first
 |(have:=Ux;exact acu)
 |(have:=Uy;exact acv)
 |(have:=Uz;exact acw)
 |(have:=UA;exact acy)
 |(have:=Te;exact acz)
 |(have:=Tf;exact acA)
 |(have:=UC;exact acB)
 ):p:=h
theorem acC (h:p:=by
 have UD:=trivial;exact qh
 ):p:=h
theorem acD (h:p:=by
 have UE:=trivial;exact qh
 ):p:=h
theorem acE (h:p:=by
 have UF:=trivial;exact EF
 ):p:=h
theorem acF (h:p:=by
 have UG:=trivial;exact EF
 ):p:=h
theorem acG (h:p:=by
 have UH:=trivial;exact EF
 ):p:=h
theorem Mh (h:p:=by
 obtain⟨b,o,hp,hlt,c0,c1,c2,c3⟩:=bL hN hb hm;have hv:=ht.all m ns[m] hm (List.getElem?_eq_getElem hm);have bK:=bM hv;rw [hk] at bK;have aT:=ht.few.2 ns[m] (List.getElem_mem hm);have aX:=ht.cap ns[m] (List.getElem_mem hm);have hl:(m:Int)<(ns.length:Int):=aa;have bu:0<ns[m].kids.length:=Nat.lt_of_lt_of_le ai bK;obtain⟨aq,aU,bf,aS,dQ⟩:=cC hN hb hm bu;have eA:=cE ht (List.getElem?_eq_getElem hm) bu;have dY:(0:Int)<(ns[m].kids.length:Int):=aa
 first
 |(have:=Tk;exact acC)
 |(have:=RM;exact acD)
 |(have:=UI;exact acE)
 |(have:=UJ;exact acF)
 |(have:=UK;exact acG)
 ):p:=h
theorem acH (h:p:=by
 clear hstep HC HZ HI hc hs hlt h1 aR hst H;generalize jt ⟨#[44,32]⟩ g i=T at*;generalize g i=gi at*;generalize ks.getD i 0=q at*;have hz2:(⟨#[44,32]⟩:ByteArray).size=2:=rfl;by_cases nR:0<i
 ·have UL:=trivial;exact UM
 ·have UN:=trivial;exact acI
 ):p:=h
theorem acJ (h:p:=by
 clear hstep HC HZ HI hc hs hlt h1 aR hst H;generalize jt ⟨#[44,32]⟩ g i=T at*;generalize g i=gi at*;generalize ks.getD i 0=q at*;have hz2:(⟨#[44,32]⟩:ByteArray).size=2:=rfl;by_cases nR:0<i
 ·have UO:=trivial;exact UM
 ·have UQ:=trivial;exact acI
 ):p:=h
theorem acK (h:p:=by
 have fT:=hid (aR.2 _ _ _ HBX.out ai pE);clear HBX;clear hstep HC HZ HI hc hs hlt h1 aR hst H;generalize jt ⟨#[44,32]⟩ g i=T at*;generalize g i=gi at*;generalize ks.getD i 0=q at*;have hz2:(⟨#[44,32]⟩:ByteArray).size=2:=rfl;by_cases nR:0<i
 ·have UR:=trivial;exact UM
 ·have Jc:(i:Int)≤0:=by omega
  rw [if_neg nR] at hz1;simp only [ByteArray.size_append] at hz1;have eI:=hid (wm.out _ wr fT.out H1.out (by rw [ByteArray.size_append];omega));clear H1 wm fT;go_wp2_with (go_at_call 235;refine(eI.out).mono ?_);exact FN
 ):p:=h
theorem acL (h:p:=by
 have fT:=hid (aR.2 _ _ _ HBX.out ai pE);clear HBX;clear hstep HC HZ HI hc hs hlt h1 aR hst H;generalize jt ⟨#[44,32]⟩ g i=T at*;generalize g i=gi at*;generalize ks.getD i 0=q at*;have hz2:(⟨#[44,32]⟩:ByteArray).size=2:=rfl;by_cases nR:0<i
 ·have UT:=trivial;exact UM
 ·have Jc:(i:Int)≤0:=by omega
  rw [if_neg nR] at hz1;simp only [ByteArray.size_append] at hz1;have eI:=hid (wm.out _ wr fT.out H1.out (by rw [ByteArray.size_append];omega));clear H1 wm fT;go_wp2_with (go_at_call 197;refine(eI.out).mono ?_);exact FN
 ):p:=h
theorem UU (h:p:=by
 rcases HI.out with h0|⟨b,o,rfl,hlt,hc⟩
 ·rw [h0] at di;simp at di
 obtain⟨h1,aR⟩:=hst.out;have hs:=h1.below.size;have uH:b<wr.heap.size:=aa;have hcell:wr.cell? ⟨b,o+i,none⟩=some (.int .i64 (ks.getD i 0)):=by
  exact abZ
 have E8:(i:Int)<(ks.length:Int):=aa;have hz0:=HZ.out i hi;have hz1:=HZ.out (i+1) di;have hstep:jt ⟨#[44,32]⟩ g (i+1)=(if 0<i then jt ⟨#[44,32]⟩ g i++⟨#[44,32]⟩ else jt ⟨#[44,32]⟩ g i)++g i:=rfl;rw [hstep] at hz1;have sR:=hid hstep;have wm:=hid (HC.out i di);have H1:=hid h1;have cm:=hid aR
 first
 |(have:=UW;exact acH)
 |(have:=UX;exact acJ)
 |(have:=UY;exact acK)
 |(have:=UZ;exact acL)
 ):p:=h
theorem acM (h:p:=by
 have U0:=trivial;exact acN
 ):p:=h
theorem acO (h:p:=by
 have U1:=trivial;exact acN
 ):p:=h
theorem acP (h:p:=by
 have U2:=trivial;exact acN
 ):p:=h
theorem acQ (h:p:=by
 obtain⟨b,o,hp,hlt,c0,c1,c2,c3⟩:=bL hN hb hm;have hv:=ht.all m ns[m] hm (List.getElem?_eq_getElem hm);have bK:=bM hv;rw [hk] at bK;have hf:=hv.fits;rw [hk] at hf;have aT:=ht.few.2 ns[m] (List.getElem_mem hm)
 first
 |(have:=U3;exact acM)
 |(have:=U4;exact acO)
 |(have:=U5;exact acP)
 ):p:=h
theorem acR (h:p:=by
 go_wp2_with (first
  |(go_at_call 140;((with_reducible refine(rZ.out _ qj).mono ?_));rintro e w' ⟨rfl,hb⟩;obtain⟨g2,rfl⟩:=ay hb;clear hb)
  )
 exact Ew
 ):p:=h
theorem acS (h:p:=by
 go_wp2_with (first
  |(go_at_call 140;((with_reducible refine(rZ.out _ qj).mono ?_));rintro e w' ⟨rfl,hb⟩;obtain⟨g2,rfl⟩:=ay hb;clear hb)
  |(go_at_call 141;((with_reducible refine(Mt.out _ qj).mono ?_));rintro e w' ⟨rfl,hb⟩;obtain⟨g3,rfl⟩:=ay hb;clear hb)
  |(go_at_call 139;((with_reducible refine(gW _).mono ?_));rintro e w' ⟨rfl,hw⟩;rw [hw];clear hw w')
  )
 exact Ew
 ):p:=h
theorem acT (h:p:=by
 go_wp2_with (first
  |(go_at_call 140;((with_reducible refine(rZ.out _ qj).mono ?_));rintro e w' ⟨rfl,hb⟩;obtain⟨g2,rfl⟩:=ay hb;clear hb)
  |(go_at_call 141;((with_reducible refine(Mt.out _ qj).mono ?_));rintro e w' ⟨rfl,hb⟩;obtain⟨g3,rfl⟩:=ay hb;clear hb)
  |(go_at_call 139;((with_reducible refine(dU _).mono ?_));rintro e w' ⟨rfl,hw⟩;rw [hw];clear hw w')
  |(go_at_call 142;((with_reducible refine(xG.out _ qj).mono ?_));rintro e w' ⟨rfl,hb⟩;obtain⟨g4,rfl⟩:=ay hb;clear hb)
  )
 exact Ew
 ):p:=h
theorem abl (h:p:=by
 have OQ:=trivial;exact Yg
 ):p:=h
theorem acU (h:p:=by
 have uQ:=(hb.cell (p:=⟨aq,_,none⟩) LK.out).trans G2.out;have hwd:IntKind.i64.wrap ((d:Int)+1)=(d:Int)+1:=Am.nQ aa aa;have hfn:∀f,ca.eval (.func f)=.func (.func f) #[] #[]:=fun _=>rfl
 have hcs:∀v,ca.eval (.const v)=v:=fun _=>rfl
 rcases kq with _|_|_|_|_|_|_|_|_|_|_|_|_|_|_|_|_|_|_|kq
 ·exact FQ
 ·exact BR
 ·cases ho;have aW:=Am.lk 91 1 ag fun _=>rfl
  exact xS
 ·cases ho;have aW:=Am.lk 92 2 ag fun _=>rfl
  exact gG
 ·cases ho;have aW:=Am.lk 93 3 ag fun _=>rfl
  exact FO
 ·exact N5
 ·cases ho;have aW:=Am.lk 90 0 ag fun _=>rfl
  have mQ:=Am.lk 94 4 ag fun _=>rfl
  have Jg:=Am.lk 95 5 ag fun _=>rfl
  exact ag0
 ·cases ho;have aW:=Am.lk 96 6 ag fun _=>rfl
  exact gG
 ·cases ho;have aW:=Am.lk 97 7 ag fun _=>rfl
  exact gG
 ·exact FQ
 ·exact BR
 ·cases ho;have aW:=Am.lk 100 10 ag fun _=>rfl
  exact xS
 ·cases ho;have aW:=Am.lk 101 11 ag fun _=>rfl
  exact gG
 ·cases ho;have aW:=Am.lk 102 12 ag fun _=>rfl
  exact NX
 ·exact N5
 ·cases ho;have aW:=Am.lk 104 14 ag fun _=>rfl
  exact ZI
 ·cases ho;have aW:=Am.lk 99 9 ag fun _=>rfl
  have mQ:=Am.lk 103 13 ag fun _=>rfl
  have Jg:=Am.lk 105 15 ag fun _=>rfl
  refine Am.bh rfl rfl (Am.cH (w':=w1) (f:=49) (args:=#[.slice (some ⟨b,o,none⟩) L c,.int .i64 k1,.int .i64 ((d:Int)+1)]) ?_ ((kj.out w1 Il).mono ?_))
  ·exact ZL
  ·exact sB
 ·cases ho;have aW:=Am.lk 98 8 ag fun _=>rfl
  have mQ:=Am.lk 106 16 ag fun _=>rfl
  exact xR
 ·cases ho;have aW:=Am.lk 107 17 ag fun _=>rfl
  exact gG
 ·simp at ho
 ):p:=h
theorem acV (h:p:=by
 have hfn:∀f,ca.eval (.func f)=.func (.func f) #[] #[]:=fun _=>rfl
 have hcs:∀v,ca.eval (.const v)=v:=fun _=>rfl
 rcases kq with _|_|_|_|_|_|_|_|_|_|_|kq
 ·exact BR
 ·cases ho;have aW:=Am.lk 18 0 ag fun _=>rfl
  exact ZP
 ·cases ho;have aW:=Am.lk 19 1 ag fun _=>rfl
  exact gG
 ·exact FQ
 ·exact BR
 ·cases ho;have aW:=Am.lk 22 4 ag fun _=>rfl
  exact xS
 ·cases ho;have aW:=Am.lk 23 5 ag fun _=>rfl
  exact gG
 ·cases ho;have aW:=Am.lk 24 6 ag fun _=>rfl
  exact FO
 ·cases ho;have aW:=Am.lk 21 3 ag fun _=>rfl
  have mQ:=Am.lk 25 7 ag fun _=>rfl
  refine Am.bh rfl rfl (Am.cH (w':=w1) (f:=149) (args:=#[.slice (some ⟨b,o,none⟩) L c,.int .i64 k0]) ?_ ((dm.out w1 Il).mono ?_))
  ·exact ZR
  ·exact sB
 ·cases ho;have aW:=Am.lk 20 2 ag fun _=>rfl
  have mQ:=Am.lk 26 8 ag fun _=>rfl
  exact xR
 ·cases ho;have aW:=Am.lk 27 9 ag fun _=>rfl
  exact gG
 ·simp at ho
 ):p:=h
theorem agR (h:p:=by
 have U6:=trivial;exact ag9
 ):p:=h
theorem U7 (h:p:=by
 have hr0:row[k]?=some 0:=by
  rw [acW.out,List.getElem?_append_right (by rw [Ik.out];exact Nat.le_refl _),Ik.out,show n - k=(n - (k+1))+1 by omega,List.replicate_succ];simp
 go_wp2;go_loopw [24] (fun i w2=>∃(j:Nat) (mS:List Int) (g2:fk),j≤q∧i=.int .i64 j∧w2=grow (w.alloc (.cells (mS.map (Value.int .i64)).toArray 3)) g2∧
  Hid (∃m:Int,mS=ds++(m+1)::List.replicate (n - (k+1)) 0∧0≤m∧m≤k∧jd ds (kids.drop j) m=jd ds kids 0)) (fun i _=>q - (intOf i).toNat)
 case atStart=>
  refine⟨0,row.set k 1,_,by omega,rfl,by rw [List.map_set];exact uZ _ _ _,0, ?_,by omega,by omega,rfl⟩;rw [acW.out,List.set_append_right _ _ (by rw [Ik.out];exact Nat.le_refl _),Ik.out,show n - k=(n - (k+1))+1 by omega,List.replicate_succ];simp
 case round=>
  obtain⟨j,mS,g2,hj,rfl,rfl,hR⟩:=hrel;by_cases hjq:j<q
  ·have OS:=trivial;exact ZV
  ·obtain rfl:j=q:=by omega
   obtain⟨m,hrow2,Ks,nh,Ef⟩:=hR.out;have qa:=Ik.out;have hr1:mS[k]?=some (m+1):=by rw [hrow2,List.getElem?_append_right aa];simp [qa]
   have qg:=hid hrow2;have ZO:=hid Ef;have EH:=hid qa;clear hrow2 Ef qa hR;go_wp2;have qa:=Ik.out;have yJ:m=jd ds kids 0:=by
    have h:=ZO.out;rw [Hq.out,List.drop_length] at h;exact h
   refine⟨⟨k+1,mS,g2,by omega,by go_num,rfl,ds++[m+1], ?_,by simp [qa],fun d hd=>?_, ?_⟩,by simp [intOf];omega⟩
   ·rw [qg.out];simp
   ·exact OC
   ·rw [yJ,←Hdd.out,Hdp.out]
 ):p:=h
theorem U8 (h:p:=by
 go_wp2;go_loopw [22] (fun i w2=>∃(j:Nat) (mS:List Int) (g2:fk),j≤q∧i=.int .i64 j∧w2=grow (w.alloc (.cells (mS.map (Value.int .i64)).toArray 3)) g2∧
  Hid (∃m:Int,mS=ds++m::List.replicate (n - k) 0∧0≤m∧m≤k∧jd ds (kids.drop j) m=jd ds kids 0)) (fun i _=>q - (intOf i).toNat)
 case atStart=>
  refine⟨0,row,_,by omega,rfl,uZ _ _ _,0, ?_,by omega,by omega,rfl⟩;rw [acW.out,show n+1 - k=(n - k)+1 by omega,List.replicate_succ]
 case round=>
  obtain⟨j,mS,g2,hj,rfl,rfl,hR⟩:=hrel;by_cases hjq:j<q
  ·have OT:=trivial;exact ZV
  ·obtain rfl:j=q:=by omega
   obtain⟨m,hrow2,Ks,nh,Ef⟩:=hR.out;have qa:=Ik.out;have hr1:mS[k]?=some m:=by rw [hrow2,List.getElem?_append_right aa];simp [qa]
   have qg:=hid hrow2;have ZO:=hid Ef;have EH:=hid qa;clear hrow2 Ef qa hR;go_wp2;have qa:=Ik.out;have yJ:m=jd ds kids 0:=by
    have h:=ZO.out;rw [Hq.out,List.drop_length] at h;exact h
   refine⟨⟨k+1,mS.set k (m+1),g2,by omega,by go_num,by rw [List.map_set],ds++[m+1], ?_,by simp [qa],fun d hd=>?_, ?_⟩,by simp [intOf];omega⟩
   ·rw [qg.out,List.set_append_right _ _ aa,qa,show n+1 - (k+1)=n - k by omega];simp
   ·exact OC
   ·rw [yJ,←Hdd.out,Hdp.out]
 ):p:=h
theorem Yw (h:p:=by
 have h0:=Ha.out.2.2;rcases h0 with h0|⟨b,o,hp,hb,hc⟩
 ·subst h0;have:=Hn.out;simp at this;omega
 subst hp;have hkx:k<xs.length:=by have:=Hn.out;omega
 replace hc:=hc k hkx;have hf:=Ha.out.2.1 xs[k] (List.getElem_mem hkx);have hsm:=Hs.out.2 xs[k] (List.getElem_mem hkx);have hdd:=BX xs k hkx;generalize xs[k]=x at*;obtain⟨kind,text,kp,aG,kids,place⟩:=x;simp only at hc hdd hsm;have c0:=hc.1;have c1:=hc.2.1;have c2:=hc.2.2.1;have c3:=hc.2.2.2;have QI:(0:Int)≤(k:Int):=aa;have aR:(k:Int)<(n:Int):=aa;have hk2:(k:Int)<(n:Int)+1:=aa;have hfk:=hf.2.2.2.2.2;obtain⟨ds,hrow,qa,hdb,Bg⟩:=hR.out;have DF:=hsm.1;obtain⟨q,hq⟩:∃q,q=kids.length:=⟨_,rfl⟩;rw [←hq] at c2;have iq:(q:Int)≤20000:=aa;have Hq:=hid hq;have Hx:=hid hfk;have Hdd:=hid hdd;have acW:=hid hrow;have Ik:=hid qa;have Hdb:=hid hdb;have Hdp:=hid Bg;clear hc hf hsm hR hdd hfk hrow qa hdb Bg DF hq
 first
 |(have:=OU;exact U7)
 |(have:=M8;exact U8)
 ):p:=h
theorem U9 (h:p:=by
 exact kL
 ):p:=h
theorem Va (h:p:=by
 exact kM
 ):p:=h
theorem ZW (h:p:=by
 have hb:bn s.toList=1:=kV;have e0:(s.toList==[119,114,105,116,101])=false:=kV;have e1:(s.toList==[107,101,121])=false:=kV;have e2:(s.toList==[114,101,115,117,109,101])=false:=kV;have e3:(s.toList==[114,101,97,100])=false:=kV;have e4:(s.toList==[112,99,97,108,108])=false:=kV;have e5:(s.toList==[101,114,114,111,114])=false:=kV;have e6:(s.toList==[116,121,112,101])=false:=kV;have e7:(s.toList==[99,114,101,97,116,101])=false:=kV;have e8:(s.toList==[121,105,101,108,100])=true:=kV;have e9:(s.toList==[115,116,97,116,117,115])=false:=kV;rw [hb];clear h0 h1 h2 h3 h4 h5 h6 h7 h8 hb
 first
 |(have:=OV;exact U9)
 |(have:=OW;exact Va)
 ):p:=h
theorem Vb (h:p:=by
 exact kL
 ):p:=h
theorem Vc (h:p:=by
 exact kM
 ):p:=h
theorem ZX (h:p:=by
 have hb:bn s.toList=1:=kW;have e0:(s.toList==[119,114,105,116,101])=false:=kW;have e1:(s.toList==[107,101,121])=false:=kW;have e2:(s.toList==[114,101,115,117,109,101])=false:=kW;have e3:(s.toList==[114,101,97,100])=false:=kW;have e4:(s.toList==[112,99,97,108,108])=false:=kW;have e5:(s.toList==[101,114,114,111,114])=false:=kW;have e6:(s.toList==[116,121,112,101])=false:=kW;have e7:(s.toList==[99,114,101,97,116,101])=true:=kW;have e8:(s.toList==[121,105,101,108,100])=false:=kW;have e9:(s.toList==[115,116,97,116,117,115])=false:=kW;rw [hb];clear h0 h1 h2 h3 h4 h5 h6 h7 hb
 first
 |(have:=OX;exact Vb)
 |(have:=OY;exact Vc)
 ):p:=h
theorem Vd (h:p:=by
 exact kL
 ):p:=h
theorem Ve (h:p:=by
 exact kM
 ):p:=h
theorem ZY (h:p:=by
 have hb:bn s.toList=1:=kX;have e0:(s.toList==[119,114,105,116,101])=false:=kX;have e1:(s.toList==[107,101,121])=false:=kX;have e2:(s.toList==[114,101,115,117,109,101])=false:=kX;have e3:(s.toList==[114,101,97,100])=false:=kX;have e4:(s.toList==[112,99,97,108,108])=false:=kX;have e5:(s.toList==[101,114,114,111,114])=false:=kX;have e6:(s.toList==[116,121,112,101])=true:=kX;have e7:(s.toList==[99,114,101,97,116,101])=false:=kX;have e8:(s.toList==[121,105,101,108,100])=false:=kX;have e9:(s.toList==[115,116,97,116,117,115])=false:=kX;rw [hb];clear h0 h1 h2 h3 h4 h5 h6 hb
 first
 |(have:=OZ;exact Vd)
 |(have:=O0;exact Ve)
 ):p:=h
theorem Vf (h:p:=by
 exact kL
 ):p:=h
theorem Vg (h:p:=by
 exact kM
 ):p:=h
theorem ZZ (h:p:=by
 have hb:bn s.toList=1:=kY;have e0:(s.toList==[119,114,105,116,101])=false:=kY;have e1:(s.toList==[107,101,121])=false:=kY;have e2:(s.toList==[114,101,115,117,109,101])=false:=kY;have e3:(s.toList==[114,101,97,100])=false:=kY;have e4:(s.toList==[112,99,97,108,108])=false:=kY;have e5:(s.toList==[101,114,114,111,114])=true:=kY;have e6:(s.toList==[116,121,112,101])=false:=kY;have e7:(s.toList==[99,114,101,97,116,101])=false:=kY;have e8:(s.toList==[121,105,101,108,100])=false:=kY;have e9:(s.toList==[115,116,97,116,117,115])=false:=kY;rw [hb];clear h0 h1 h2 h3 h4 h5 hb
 first
 |(have:=O1;exact Vf)
 |(have:=O2;exact Vg)
 ):p:=h
theorem Vh (h:p:=by
 exact kL
 ):p:=h
theorem Vi (h:p:=by
 exact kM
 ):p:=h
theorem Z0 (h:p:=by
 have hb:bn s.toList=1:=kZ;have e0:(s.toList==[119,114,105,116,101])=false:=kZ;have e1:(s.toList==[107,101,121])=false:=kZ;have e2:(s.toList==[114,101,115,117,109,101])=false:=kZ;have e3:(s.toList==[114,101,97,100])=false:=kZ;have e4:(s.toList==[112,99,97,108,108])=true:=kZ;have e5:(s.toList==[101,114,114,111,114])=false:=kZ;have e6:(s.toList==[116,121,112,101])=false:=kZ;have e7:(s.toList==[99,114,101,97,116,101])=false:=kZ;have e8:(s.toList==[121,105,101,108,100])=false:=kZ;have e9:(s.toList==[115,116,97,116,117,115])=false:=kZ;rw [hb];clear h0 h1 h2 h3 h4 hb
 first
 |(have:=O3;exact Vh)
 |(have:=O4;exact Vi)
 ):p:=h
theorem Vj (h:p:=by
 exact kL
 ):p:=h
theorem Vk (h:p:=by
 exact kM
 ):p:=h
theorem Z1 (h:p:=by
 have hb:bn s.toList=1:=ld;have e0:(s.toList==[119,114,105,116,101])=false:=ld;have e1:(s.toList==[107,101,121])=false:=ld;have e2:(s.toList==[114,101,115,117,109,101])=false:=ld;have e3:(s.toList==[114,101,97,100])=true:=ld;have e4:(s.toList==[112,99,97,108,108])=false:=ld;have e5:(s.toList==[101,114,114,111,114])=false:=ld;have e6:(s.toList==[116,121,112,101])=false:=ld;have e7:(s.toList==[99,114,101,97,116,101])=false:=ld;have e8:(s.toList==[121,105,101,108,100])=false:=ld;have e9:(s.toList==[115,116,97,116,117,115])=false:=ld;rw [hb];clear h0 h1 h2 h3 hb
 first
 |(have:=O5;exact Vj)
 |(have:=O6;exact Vk)
 ):p:=h
theorem Vl (h:p:=by
 exact kL
 ):p:=h
theorem Vm (h:p:=by
 exact kM
 ):p:=h
theorem Z2 (h:p:=by
 have hb:bn s.toList=2:=jZ;have e0:(s.toList==[119,114,105,116,101])=false:=jZ;have e1:(s.toList==[107,101,121])=false:=jZ;have e2:(s.toList==[114,101,115,117,109,101])=true:=jZ;have e3:(s.toList==[114,101,97,100])=false:=jZ;have e4:(s.toList==[112,99,97,108,108])=false:=jZ;have e5:(s.toList==[101,114,114,111,114])=false:=jZ;have e6:(s.toList==[116,121,112,101])=false:=jZ;have e7:(s.toList==[99,114,101,97,116,101])=false:=jZ;have e8:(s.toList==[121,105,101,108,100])=false:=jZ;have e9:(s.toList==[115,116,97,116,117,115])=false:=jZ;rw [hb];clear h0 h1 h2 hb
 first
 |(have:=O7;exact Vl)
 |(have:=O8;exact Vm)
 ):p:=h
theorem Vn (h:p:=by
 exact kL
 ):p:=h
theorem Vo (h:p:=by
 exact kM
 ):p:=h
theorem Z3 (h:p:=by
 have hb:bn s.toList=2:=jy;have e0:(s.toList==[119,114,105,116,101])=false:=jy;have e1:(s.toList==[107,101,121])=true:=jy;have e2:(s.toList==[114,101,115,117,109,101])=false:=jy;have e3:(s.toList==[114,101,97,100])=false:=jy;have e4:(s.toList==[112,99,97,108,108])=false:=jy;have e5:(s.toList==[101,114,114,111,114])=false:=jy;have e6:(s.toList==[116,121,112,101])=false:=jy;have e7:(s.toList==[99,114,101,97,116,101])=false:=jy;have e8:(s.toList==[121,105,101,108,100])=false:=jy;have e9:(s.toList==[115,116,97,116,117,115])=false:=jy;rw [hb];clear h0 h1 hb
 first
 |(have:=O9;exact Vn)
 |(have:=Pa;exact Vo)
 ):p:=h
theorem Vp (h:p:=by
 exact kL
 ):p:=h
theorem Vq (h:p:=by
 exact kM
 ):p:=h
theorem Z4 (h:p:=by
 have hb:bn s.toList=2:=jz;have e0:(s.toList==[119,114,105,116,101])=true:=jz;have e1:(s.toList==[107,101,121])=false:=jz;have e2:(s.toList==[114,101,115,117,109,101])=false:=jz;have e3:(s.toList==[114,101,97,100])=false:=jz;have e4:(s.toList==[112,99,97,108,108])=false:=jz;have e5:(s.toList==[101,114,114,111,114])=false:=jz;have e6:(s.toList==[116,121,112,101])=false:=jz;have e7:(s.toList==[99,114,101,97,116,101])=false:=jz;have e8:(s.toList==[121,105,101,108,100])=false:=jz;have e9:(s.toList==[115,116,97,116,117,115])=false:=jz;rw [hb];clear h0 hb
 first
 |(have:=Pb;exact Vp)
 |(have:=Pc;exact Vq)
 ):p:=h
theorem Vs (h:p:=by
 exact Ov
 ):p:=h
theorem Vt (h:p:=by
 exact Ow
 ):p:=h
theorem Z5 (h:p:=by
 have hb:bn s.toList=1:=lf;have e0:(s.toList==[119,114,105,116,101])=false:=lf;have e1:(s.toList==[107,101,121])=false:=lf;have e2:(s.toList==[114,101,115,117,109,101])=false:=lf;have e3:(s.toList==[114,101,97,100])=false:=lf;have e4:(s.toList==[112,99,97,108,108])=false:=lf;have e5:(s.toList==[101,114,114,111,114])=false:=lf;have e6:(s.toList==[116,121,112,101])=false:=lf;have e7:(s.toList==[99,114,101,97,116,101])=false:=lf;have e8:(s.toList==[121,105,101,108,100])=false:=lf;have e9:(s.toList==[115,116,97,116,117,115])=true:=lf
 first
 |(have:=Pd;exact Vs)
 |(have:=Pe;exact Vt)
 ):p:=h
theorem Vu (h:p:=by
 have e3b:(i:Int) - (A.size:Int)=((i - A.size - more:Nat):Int):=aa;exact YR
 ):p:=h
theorem Vv (h:p:=by
 exact YR
 ):p:=h
theorem Z6 (h:p:=by
 have w2:¬(i:Int)<(A.size:Int)+(more:Int):=aa;have hAm:(A.size:Int)+(more:Int)≤20010:=aa;have hbi:i - A.size - more<B.size:=by have:=akj.out;omega
 have hpl:i - A.size - more<B.data.toList.length:=by rw [HBl.out];exact hbi
 have hw:jN A.data.toList O.data.toList B.data.toList more i=B[i - A.size - more]:=by
  exact abV
 have hl:(B[i - A.size - more]).toNat∈letters:=D2.out _ (.inr (.inr (by
  have:B[i - A.size - more]=B.data.toList[i - A.size - more]:=gX;rw [this];exact List.getElem_mem hpl)))
 rw [hw] at hd;have e3:(i:Int) - (A.size:Int) - (more:Int)=((i - A.size - more:Nat):Int):=aa
 first
 |(have:=Pf;exact Vu)
 |(have:=Pg;exact Vv)
 ):p:=h
theorem Vw (h:p:=by
 generalize ca.tmps.getD 43 undef=x43 at dV;generalize ca.tmps.getD 44 undef=x44 at dV;generalize ca.tmps.getD 45 undef=x45 at dV;generalize ca.tmps.getD 46 undef=x46 at dV;generalize ca.tmps.getD 47 undef=x47 at dV;generalize ca.tmps.getD 48 undef=x48 at dV;exact YZ
 ):p:=h
theorem Vx (h:p:=by
 obtain⟨yf,pW⟩:∃y:Nat→Value,∀t,ca.tmps.getD t undef=y t:=⟨_,fun _=>rfl⟩;simp only [pW] at dV;clear pW;exact YZ
 ):p:=h
theorem XT (h:p:=by
 intro ca w1 hb hd hs bV cQ;have h42:ca.tmps.getD 42 undef=u3:=bV 0 _ 42 rfl rfl;obtain⟨U,h49,hU,hU0⟩:∃U:Nat,ca.tmps.getD 49 undef=.slice (some ⟨U,0,none⟩) 4 4∧w1.heap[U]?=some (.cells #[.int .u8 92,.int .u8 120,.int .u8 (((⟨#[48,49,50,51,52,53,54,55,56,57,97,98,99,100,101,102]⟩:ByteArray)[q]'q1).toNat:Int),.int .u8 (((⟨#[48,49,50,51,52,53,54,55,56,57,97,98,99,100,101,102]⟩:ByteArray)[r]'q2).toNat:Int)] 5 (0,0))∧wr.heap.size≤U:=bV 7 _ 49 rfl rfl;have dV:=Am.dy hd hs cQ;simp only [List.foldl_cons,List.foldl_nil,h42,h49] at dV
 first
 |(have:=Kt;exact Vw)
 |(have:=Ku;exact Vx)
 ):p:=h
theorem Vy (h:p:=by
 go_wp2;go_ret;exact⟨by rw [←Hr.out];rfl,Below.refl _ _⟩
 ):p:=h
theorem Vz (h:p:=by
 by_cases r17:kx=17
 ·subst r17;exact ZN
 ·have ai1:=cA r17;by_cases r21:kx=21
  ·subst r21;exact ZN
  ·have ai2:=cA r21;have hd:=hid (decide_eq_false (show ¬(kx=17∨kx=21) by omega));clear r17 r21;go_wp2_with (go_at_call 139;((with_reducible refine(gW _).mono ?_));rintro e w' ⟨rfl,hw⟩;rw [hw];clear hw w');exact⟨rfl,by rw [←Hr.out,hd.out];rfl,cN⟩
 ):p:=h
theorem Z7 (h:p:=by
 unfold xh at hr;rw [hka,if_neg hs] at hr;have h18:(x.kind==18)=false:=by cases e:(x.kind==18) with
  |false=>rfl
  |true=>exact absurd (.inl (eq_of_beq e)) hs
 have h19:(x.kind==19)=false:=by cases e:(x.kind==19) with
  |false=>rfl
  |true=>exact absurd (.inr (.inl (eq_of_beq e))) hs
 have h20:(x.kind==20)=false:=by cases e:(x.kind==20) with
  |false=>rfl
  |true=>exact absurd (.inr (.inr (eq_of_beq e))) hs
 have Hr:=hid hr;clear hR hr hka jS hvn hf hx hs;generalize x.kind=kx at*
 first
 |(have:=Ph;exact Vy)
 |(have:=Pj;exact Vz)
 ):p:=h
theorem VA (h:p:=by
 rw [←hq] at c2 gq aX;have Hq:=hid hq;clear hq;go_enter Tryz.func66,Tryz.ntmps66;go_wp2;go_loopw [102] (fun iv wr=>∃(i:Nat) (g:fk),iv=.int .i64 i∧i≤q∧wr=grow (w.alloc (.cells #[Value.int IntKind.i64 32,Value.string x.text,Value.slice x.kp q x.aG,Value.int IntKind.i64 x.place] 56)) g∧Hid (((x.kids.take i).map (aZ ns)).Nodup)) (fun iv _=>q - (intOf iv).toNat)
 case atStart=>exact⟨0,_,rfl,by omega,(er _).symm,by simp [Hid]⟩
 case round=>
  obtain⟨i,g,rfl,hi,rfl,hR⟩:=hrel;by_cases hiq:i<q
  ·have lq:i<x.kids.length:=by have:=Hq.out;omega
   obtain⟨bk,ok,fO,fu,fI⟩:=kE Hf.out lq;have sj:x.kids.getD i 0=x.kids[i]:=by simp [List.getD,List.getElem?_eq_getElem lq]
   have bZ:=qT.out x.kids[i] (List.getElem_mem lq);rw [sj] at fI;obtain⟨z,hz⟩:∃z:Nat,x.kids[i]=(z:Int):=⟨(x.kids[i]).toNat,by omega⟩;rw [hz] at bZ fI;have hzl:z<ns.length:=aa;obtain⟨b2,o2,QG,hb2,hx2,hf2,d0,d1,d2,d3⟩:=fq Ha.out hzl;cases QG;have hti:=gP hx2;have z0:(0:Int)≤(z:Int):=aa;have z1:(z:Int)<(L:Int):=nS;have i0:(0:Int)≤(i:Int):=aa;have i1:(i:Int)<(q:Int):=aa;have i2:(i:Int)≤(x.aG:Int):=aa;have sx:x.kids.take (i+1)=x.kids.take i++[(z:Int)]:=by rw [List.take_add_one,List.getElem?_eq_getElem lq,hz];rfl
   have Hti:=hid hti;have BL:=hid sx;have Hkp:=hid fO;have Hbk:=hid fu;rw [fO] at c2 ⊢;clear hti sx fO sj hx2 hf2 hz lq d0 d2 d3;generalize ns[z].text=s1 at*;go_wp2;go_loopw [112] (fun jv wr=>∃(j:Nat) (g2:fk),jv=.int .i64 j∧j≤i∧wr=grow (w.alloc (.cells #[Value.int IntKind.i64 32,Value.string x.text,Value.slice (some ⟨bk,ok,none⟩) q x.aG,Value.int IntKind.i64 x.place] 56)) g2∧Hid (∀j':Nat,j'<j→aZ ns (x.kids.getD j' 0)≠s1.data.toList)) (fun jv _=>i - (intOf jv).toNat)
   case atStart=>exact⟨0,g,rfl,by omega,rfl,fun j' h=>by omega⟩
   case round=>
    obtain⟨j,g2,rfl,hj,rfl,hJ⟩:=hrel;by_cases MH:j<i
    ·have zM:j<x.kids.length:=by have:=Hq.out;omega
     obtain⟨bk',ok',qb,BM,hcj⟩:=kE Hf.out zM;have sj:x.kids.getD j 0=x.kids[j]:=Nk;have Nl:=qT.out x.kids[j] (List.getElem_mem zM);rw [Hkp.out] at qb;cases qb;rw [sj] at hcj;obtain⟨y,hy⟩:∃y:Nat,x.kids[j]=(y:Int):=⟨(x.kids[j]).toNat,by omega⟩;rw [hy] at Nl hcj;have hyl:y<ns.length:=aa;obtain⟨b3,o3,Rw,hb3,hx3,hf3,f0,f1,f2,f3⟩:=fq Ha.out hyl;cases Rw;have htj:=gP hx3;have y0:(0:Int)≤(y:Int):=aa;have y1:(y:Int)<(L:Int):=nS;have j0:(0:Int)≤(j:Int):=aa;have j1:(j:Int)<(i:Int):=aa;have Htj:=hid htj;have Hgj:=hid (sj.trans hy);clear htj sj hx3 hf3 hy f0 f2 f3 BM;generalize ns[y].text=s2 at*;cases he:(s1.toList==s2.toList) with
     |true=>
      have hno:¬((x.kids.map (aZ ns)).Nodup):=fun h=>by
       have h2:(x.kids.map (aZ ns))[i]?=(x.kids.map (aZ ns))[j]?:=by
        have e1:x.kids[i]?=some (z:Int):=by
         have:=BL.out;have h3:=congrArg (fun l=>l[i]?) this;simp only [List.getElem?_take_of_lt (Nat.lt_succ_self i)] at h3;rw [h3,List.getElem?_append_right cr];simp [show min i x.kids.length=i by have:=Hq.out;omega]
        have e2:x.kids[j]?=some (y:Int):=by
         exact Nn
        rw [List.getElem?_map,List.getElem?_map,e1,e2];simp only [Option.map_some];rw [Hti.out,Htj.out];congr 1;have:=eq_of_beq he
        rwa [ByteArray.toList_eq,ByteArray.toList_eq] at this
       have h4:=(List.getElem?_inj (by simp;have:=Hq.out;omega) h).1 h2;omega
      have HD:Hid (decide ((x.kids.map (aZ ns)).Nodup)=false):=hid (decide_eq_false hno);clear hno;go_wp2;go_quiet (fail);exact Od
     |false=>
      have Hne:Hid (∀j':Nat,j'<j+1→aZ ns (x.kids.getD j' 0)≠s1.data.toList):=hid fun j' h=>by
       rcases Nat.lt_or_ge j' j with h2|h2
       ·exact hJ.out j' h2
       ·obtain rfl:j'=j:=by omega
        rw [Hgj.out,Htj.out];intro e;rw [ByteArray.toList_eq,ByteArray.toList_eq,e] at he;simp at he
      exact Np
    ·obtain rfl:j=i:=by omega
     have HN:Hid (((x.kids.take (j+1)).map (aZ ns)).Nodup):=hid (by
      rw [BL.out,List.map_append,List.map_cons,List.map_nil,Hti.out,List.nodup_append];refine⟨hR.out,by simp,fun a ha b' hb' e=>?_⟩;simp at hb';subst hb';subst e;obtain⟨k,aR,hk2⟩:=List.mem_map.1 ha;obtain⟨j',hj',hk3⟩:=List.mem_iff_getElem.1 aR;rw [List.length_take] at hj';rw [List.getElem_take] at hk3;refine hJ.out j' aa ?_;rw [List.getD,List.getElem?_eq_getElem aa,hk3];exact hk2)
     exact Nq
  ·obtain rfl:i=q:=by omega
   have hr:=hR.out;rw [List.take_of_length_le mC] at hr;have HD:Hid (decide ((x.kids.map (aZ ns)).Nodup)=true):=hid (decide_eq_true hr);have j1:¬(i:Int)<(i:Int):=aa;clear hR hr;exact Od
 ):p:=h
theorem VB (h:p:=by
 rw [←hq] at c2 gq;have Hq:=hid hq;clear hq;go_enter Tryz.func66,Tryz.ntmps66;go_wp2;go_loop [29] (fun iv=>∃j:Nat,iv=.int .i64 j∧j≤q∧Hid ((x.kids.dropLast.drop j).all (dr ns)=x.kids.dropLast.all (dr ns))) (fun iv=>q - (intOf iv).toNat)
 case atStart=>exact⟨0,rfl,by omega,rfl⟩
 case round=>
  obtain⟨j,rfl,hj,hR⟩:=hrel;by_cases hjq:j<q
  ·have zM:j<x.kids.length:=by have:=Hq.out;omega
   obtain⟨bk,ok,fO,fu,fI⟩:=kE Hf.out zM;have sj:x.kids.getD j 0=x.kids[j]:=Nk;have bZ:=qT.out x.kids[j] (List.getElem_mem zM);rw [sj] at fI;have j0:(0:Int)≤(j:Int):=aa;have j1:(j:Int)<(q:Int):=aa;by_cases AG:j+1<q
   ·have hd:=rQ x.kids j mC;have hr:=hR.out;rw [hd,List.all_cons] at hr;obtain⟨z,hz⟩:∃z:Nat,x.kids[j]=(z:Int):=⟨(x.kids[j]).toNat,by omega⟩;rw [hz] at hr bZ fI;have hzl:z<ns.length:=aa;obtain⟨b2,o2,QG,hb2,hx2,hf2,d0,d1,d2,d3⟩:=fq Ha.out hzl;cases QG;have hka:=aY hx2;have hP:dr ns (z:Int)=decide (ns[z].kind≠10∧ns[z].kind≠11):=by unfold dr;rw [hka]
    rw [hP] at hr;have z0:(0:Int)≤(z:Int):=aa;have z1:(z:Int)<(L:Int):=nS;have j2:(j:Int)<(q:Int) - 1:=aa;have Hr:=hid hr;have rA:=hid fO;rw [fO] at c2;clear hR hr hd sj hx2 hf2 hka hP hz zM fO d1 d2 d3;generalize ns[z]=y at*;generalize y.kind=ky at*;by_cases Nc:ky=10
    ·have HR:Hid (x.kids.dropLast.all (dr ns)=false):=hid (by rw [←Hr.out,Nc];rfl);subst Nc;exact Ok
    ·have ajS:=cA Nc;by_cases Nf:ky=11
     ·have HR:Hid (x.kids.dropLast.all (dr ns)=false):=hid (by rw [←Hr.out,Nf];rfl);subst Nf;exact Ok
     ·have ajT:=cA Nf;have HR:Hid ((x.kids.dropLast.drop (j+1)).all (dr ns)=x.kids.dropLast.all (dr ns)):=hid (by
       rw [←Hr.out,decide_eq_true (⟨Nc,Nf⟩:ky≠10∧ky≠11),Bool.true_and])
      clear Hr Nc Nf;rw [rA.out];go_wp2;go_round
      case rel=>exact⟨j+1,by go_num,by omega,HR⟩
      case measure=>simp [intOf];omega
   ·have hd:=fe x.kids j mC;have iM:=fe x.kids (j+1) mC;have hr:=hR.out;rw [hd] at hr;have Hr:Hid ((x.kids.dropLast.drop (j+1)).all (dr ns)=x.kids.dropLast.all (dr ns)):=hid (by rw [iM];exact hr);have j2:¬(j:Int)<(q:Int) - 1:=aa;have rA:=hid fO;rw [fO] at c2;generalize x.kids[j]=u at*;clear hR hr hd iM sj fO;rw [rA.out];go_wp2;go_round
    case rel=>exact⟨j+1,by go_num,by omega,Hr⟩
    case measure=>simp [intOf];omega
  ·obtain rfl:j=q:=by omega
   have hr:=hR.out;rw [fe x.kids j mC] at hr;have Hr:=hid (show x.kids.dropLast.all (dr ns)=true from hr.symm);have j1:¬(j:Int)<(j:Int):=aa;clear hR hr;go_wp2;exact uX
 ):p:=h
theorem XN (h:p:=by
 obtain⟨b,o,hp,hb,hx,hf,c0,c1,c2,c3⟩:=fq ha hn;subst hp;have n0:(0:Int)≤(n:Int):=aa;have n1:(n:Int)<(ns.length:Int):=aa;have qT:=hid fc;have Hf:=hid hf;have Ha:=hid ha;have hns:ns.length≤5000:=aa;obtain⟨L,yK⟩:∃L,L=ns.length:=⟨_,rfl⟩;rw [←yK] at hL n1 hns ⊢;rw [hk] at c0;have HL:=hid yK;clear hx hf fc ha hk yK;generalize ns[n]=x at*;obtain⟨q,hq⟩:∃q,q=x.kids.length:=⟨_,rfl⟩
 first
 |(have:=NC;exact VA)
 |(have:=Kh;exact VB)
 ):p:=h
theorem VC (h:p:=by
 rcases kq with _|_|_|_|_|_|_|_|_|_|kq
 ·exact zP
 ·exact zP
 ·exact N2
 ·exact N3
 ·exact N1
 ·exact fB
 ·exact Zu
 ·exact N4
 ·exact NZ
 ·cases ho;have aW:=Am.lk 11 8 ag fun _=>rfl
  refine Am.bh rfl rfl (Am.ic (v:=.slice (some ⟨w1.heap.size,0,none⟩) 1 1) (w':=w1.alloc (.cells #[.string zt] 9)) ?_ (hK _ _ ((Below.refl _ _).alloc (Nat.le_refl _) _) ⟨w1.heap.size,rfl,heap_alloc_new _ _,QM⟩));exact vC
 ·simp at ho
 ):p:=h
theorem VD (h:p:=by
 rcases kq with _|_|_|_|_|_|_|_|_|_|kq
 ·exact zP
 ·exact zP
 ·exact N2
 ·exact N3
 ·exact N1
 ·exact fB
 ·exact Zu
 ·exact N4
 ·exact NZ
 ·cases ho;have aW:=Am.lk 11 8 ag fun _=>rfl
  refine Am.bh rfl rfl (Am.ic (v:=.slice (some ⟨w1.heap.size,0,none⟩) 2 2) (w':=w1.alloc (.cells #[.string zt,.string ⟨#[58,32]⟩] 9)) ?_ (hK _ _ ((Below.refl _ _).alloc (Nat.le_refl _) _) ⟨w1.heap.size,rfl,heap_alloc_new _ _,QM⟩));exact vC
 ·simp at ho
 ):p:=h
theorem Yh (h:p:=by
 intro kq o ca w1 ho hb ag K hK;have hXw:=(hb.block bx (Array.getElem?_eq_some_iff.1 HX.out).1).trans HX.out;have cXw:w1.cell? ⟨bx,0,none⟩=some (.pointer (some ⟨B,0,none⟩)):=by simp [World.cell?,hXw]
 have hHw:=H.out.later hb;have cBw:=hHw.cell0;have cZw:=(hHw.below.cell (p:=⟨b,_,none⟩) HD.out.1).trans HD.out.2.1;have QM:=hb.size;have hfn:∀f,ca.eval (.func f)=.func (.func f) #[] #[]:=fun _=>rfl
 have hcs:∀v,ca.eval (.const v)=v:=fun _=>rfl
 first
 |(have:=MA;exact VC)
 |(have:=MC;exact VD)
 ):p:=h
theorem VE (h:p:=by
 have hst:(ts.map (fun s:ByteArray=>s.data.toList)).take (k+1)=(ts.map (fun s:ByteArray=>s.data.toList)).take k++[(fun s:ByteArray=>s.data.toList) ts[k]]:=by
  rw [List.take_succ_eq_append_getElem (by simpa using DF)];simp
 clear h1 h2 hg;generalize ts[k]=s at*;obtain⟨t,ht⟩:∃t:ByteArray,t=s:=⟨_,rfl⟩;have Pk:Hid (∀w,Calls Tryz.prog 188 #[.string s] w fun e w'=>e=.returned (.string t)∧w=w'):=hid (by rw [ht];exact VF s hcs);have Ip:(fun s:ByteArray=>s.data.toList) s=t.data.toList:=by subst ht;rfl
 rw [Ip] at hst;have hkey:keyOf Tryz.prog 9 (.string t)=some (.string t.data.toList):=keyOf_string_mk Tryz.underlying9 (by rw [ht];have:=hcs;unfold maxLen;omega);have Hst:=hid hst;have k0:(0:Int)≤(k:Int):=aa;have k1:(k:Int)<(m:Int):=aa;have kk0:(0:Int)≤(kk:Int):=aa;have kk1:(kk:Int)<(n:Int):=aa;clear hst Ip ht hcs;go_wp2_with (first
  |(go_at_call 188;((with_reducible refine(Pk.out _).mono ?_));rintro e w' ⟨rfl,rfl⟩)
  |(at_lookup;refine wpList_lookup_own_int _ rfl _ _ 119 rfl 9 3 .i64 Dx Tryz.underlying119 Tryz.underlying3 (Fp _) w.heap.size k _ rfl hown _ _ rfl hkey ?_;intro c hat hwc)
  |(at_mapUpdate;refine wpList_mapUpdate_own _ rfl _ _ _ 119 rfl 9 3 Dx Tryz.underlying119 _ w.heap.size k _ rfl hown uB _ _ _ rfl rfl hkey _ [] (plainElem_int Tryz.underlying3 (wrap64_wf _)) ?_))
 exact Zk
 ):p:=h
theorem VG (h:p:=by
 have hst:(ts.map (fun s:ByteArray=>s.data.toList.take 1)).take (k+1)=(ts.map (fun s:ByteArray=>s.data.toList.take 1)).take k++[(fun s:ByteArray=>s.data.toList.take 1) ts[k]]:=by
  rw [List.take_succ_eq_append_getElem (by simpa using DF)];simp
 clear h1 h2 hg;generalize ts[k]=s at*;obtain⟨t,ht⟩:∃t:ByteArray,t=(s.extract 0 1):=⟨_,rfl⟩;have Pk:Hid (∀w,Calls Tryz.prog 189 #[.string s] w fun e w'=>e=.returned (.string t)∧w=w'):=hid (by rw [ht];exact Pm s hcs);have Ip:(fun s:ByteArray=>s.data.toList.take 1) s=t.data.toList:=by subst ht;simp [ByteArray.extract_mk,Array.toList_extract]
 rw [Ip] at hst;have hkey:keyOf Tryz.prog 9 (.string t)=some (.string t.data.toList):=keyOf_string_mk Tryz.underlying9 (by rw [ht];rw [ByteArray.size_extract];have:=hcs.2;unfold maxLen;omega);have Hst:=hid hst;have k0:(0:Int)≤(k:Int):=aa;have k1:(k:Int)<(m:Int):=aa;have kk0:(0:Int)≤(kk:Int):=aa;have kk1:(kk:Int)<(n:Int):=aa;clear hst Ip ht hcs;go_wp2_with (first
  |(go_at_call 189;((with_reducible refine(Pk.out _).mono ?_));rintro e w' ⟨rfl,rfl⟩)
  |(at_lookup;refine wpList_lookup_own_int _ rfl _ _ 119 rfl 9 3 .i64 Dx Tryz.underlying119 Tryz.underlying3 (Fp _) w.heap.size k _ rfl hown _ _ rfl hkey ?_;intro c hat hwc)
  |(at_mapUpdate;refine wpList_mapUpdate_own _ rfl _ _ _ 119 rfl 9 3 Dx Tryz.underlying119 _ w.heap.size k _ rfl hown uB _ _ _ rfl rfl hkey _ [] (plainElem_int Tryz.underlying3 (wrap64_wf _)) ?_))
 exact Zk
 ):p:=h
theorem Z8 (h:p:=by
 have DF:k<ts.length:=by have:=Hts.out;omega
 have hg:ts[k]?=some ts[k]:=List.getElem?_eq_getElem DF;have hcs:=Hc.out ts[k] (List.getElem_mem DF);obtain⟨b,o,bq,oq,kk,rfl,rfl,hb,hbq,bK,h1,h2⟩:=Hk.out k _ hg;have e1:wr.cell? ⟨bq,oq+k,none⟩=some (.int .i64 kk):=(wo.cell (p:=⟨bq,oq+k,none⟩) hbq).trans h1;have e2:wr.cell? ⟨b,o+kk*4+1,none⟩=some (.string ts[k]):=(wo.cell (p:=⟨b,o+kk*4+1,none⟩) hb).trans h2
 first
 |(have:=Pn;exact VE)
 |(have:=Po;exact VG)
 ):p:=h
theorem VH (h:p:=by
 cases hp:eP x with
 |false=>
  have Hp:Hid (cY s.data.toList=false):=hid (by rw [Hx.out,hp];rfl);go_wp2_with (go_at_call 177;((with_reducible refine(A1 x BZ _).mono ?_));rintro e w' ⟨rfl,hb⟩;obtain⟨g3,rfl⟩:=ay hb;clear hb);exact Ot
 |true=>
  have Hp:Hid (cY s.data.toList=(s.data.toList.drop (k+1)).all (fun b=>eP b.toNat)):=hid (by rw [Hx.out,hp];rfl);go_wp2_with (go_at_call 177;((with_reducible refine(A1 x BZ _).mono ?_));rintro e w' ⟨rfl,hb⟩;obtain⟨g3,rfl⟩:=ay hb;clear hb);exact Oy
 ):p:=h
theorem VI (h:p:=by
 cases hp:eP x with
 |false=>
  have Hp:Hid (cY s.data.toList=false):=hid (by rw [Hx.out,hp];rfl);go_wp2_with (go_at_call 130;((with_reducible refine(xw x BZ _).mono ?_));rintro e w' ⟨rfl,hb⟩;obtain⟨g3,rfl⟩:=ay hb;clear hb);exact Ot
 |true=>
  have Hp:Hid (cY s.data.toList=(s.data.toList.drop (k+1)).all (fun b=>eP b.toNat)):=hid (by rw [Hx.out,hp];rfl);go_wp2_with (go_at_call 130;((with_reducible refine(xw x BZ _).mono ?_));rintro e w' ⟨rfl,hb⟩;obtain⟨g3,rfl⟩:=ay hb;clear hb);exact Oy
 ):p:=h
theorem Z9 (h:p:=by
 have hpl:k<s.data.toList.length:=by rw [Hln.out];exact hlt
 have hx:=wD s.data.toList k hpl;rw [hR.out] at hx;have hbe:s.data.toList[k]=s[k]:=gX;rw [hbe] at hx;have BZ:(s[k]).toNat<256:=(s[k]).toNat_lt;obtain⟨x,hxx⟩:∃x,(s[k]).toNat=x:=⟨_,rfl⟩;rw [hxx] at hx BZ;have Hx:=hid hx;have k0:(0:Int)≤(k:Int):=aa;have k1:(k:Int)<(s.size:Int):=aa;clear hx hbe hR
 first
 |(have:=Pp;exact VH)
 |(have:=Pq;exact VI)
 ):p:=h
theorem VJ (h:p:=by
 have ht1:eY ns (m:Int)=ns[m].text:=by unfold eY;rw [Int.toNat_natCast,List.getElem?_eq_getElem hm]
 have hes:(E (m:Int) d).size≤1000000000:=by
  unfold bB at hsz;split at hsz
  ·rw [lM] at hsz;omega
  ·exact hsz
 have hC:=hid (hE (m:Int) d W' hb aa h1 hd hes);have hl:(m:Int)<(ns.length:Int):=aa;have hne:¬ns=[]:=fun h=>by rw [h] at hm;simp at hm
 obtain⟨R,hR⟩:∃R,R=bB ns E (m:Int) r d:=⟨_,rfl⟩;rw [←hR];unfold bB at hR;rw [aR,ht1] at hR;have hq:=hid (fun w=>tF ns[m].kind ns[m].text ns[m].kp ns[m].kids.length ns[m].aG ns[m].place w);generalize aH ns[m].kind ns[m].text.toList=q at*;generalize ns[m]=x at*;obtain⟨xk,xt,xp,xc,aK,aP⟩:=x;simp only at c0 c1 c2 c3 hq;generalize E (m:Int) d=s at*;generalize ns.length=L at*;generalize aK.length=xl at*;have HR:=hid hR;subst hp;clear hsz hE hR aR ht1 hN ht hb h1 aJ hne;by_cases uH:q<r
 ·have HR2:=hid (show R=og s by rw [HR.out,if_pos uH]);exact Y8
 ·have HR2:=hid (show R=s by rw [HR.out,if_neg uH]);have hle:r≤q:=aa;exact Y8
 ):p:=h
theorem VK (h:p:=by
 have hv:=ht.all m ns[m] hm (List.getElem?_eq_getElem hm);have hes:(E (m:Int) d).size≤1000000000:=by
  unfold dR at hsz;split at hsz
  ·exact hsz
  ·rw [lM] at hsz;omega
 have hC:=hid (hE (m:Int) d W' hb aa h1 hd hes);have hl:(m:Int)<(ns.length:Int):=aa;obtain⟨kk,bK⟩:∃kk:Nat,ns[m].kind=kk:=⟨ns[m].kind.toNat,by have:=hv.k1;omega⟩;have abj:kk<37:=by have:=hv.yU;omega
 obtain⟨R,hR⟩:∃R,R=dR ns E (m:Int) d:=⟨_,rfl⟩;rw [←hR];unfold dR at hR;rw [aR,bK,Int.toNat_natCast] at hR;rw [bK] at c0;have hq:=hid (fun w=>VL kk abj w);generalize isAtom kk=q at*;generalize E (m:Int) d=s at*;have HR:=hid hR;subst hp;clear hsz hE hR aR hN ht hb h1 hv bK aJ c1 c2 c3 hm;generalize ns.length=L at*;cases q with
 |false=>
  have HR2:=hid (show R=og s from HR.out);exact Za
 |true=>
  have HR2:=hid (show R=s from HR.out);exact Za
 ):p:=h
theorem VM (h:p:=by
 have hl:(m:Int)<(ns.length:Int):=aa;obtain⟨R,hR⟩:∃R,R=bO ns K (m:Int):=⟨_,rfl⟩;rw [←hR] at hsz ⊢;unfold bO at hR;rw [aR] at hR;by_cases fV:ns[m].kind=12
 ·have HR:=hid (show R=⟨#[]⟩ by rw [hR,if_pos fV]);subst hp;rw [fV] at c0;clear hR hK hN ht hb aR c1 c2 c3 aJ fV hm h1;generalize ns.length=L at*;go_enter Tryz.func149,Tryz.ntmps149;go_wp2;go_ret;exact⟨by rw [HR.out];rfl,Below.refl _ _⟩
 ·have hX:R=(⟨#[58,32]⟩:ByteArray)++K (m:Int):=by rw [hR,if_neg fV]
  have hs:(K (m:Int)).size≤1000000000:=by
   rw [hX,ByteArray.size_append] at hsz;omega
  have aj:=hsz;rw [hX] at aj;simp only [ByteArray.size_append] at aj;have hC:=hid (fun w hb2=>hK (m:Int) w hb2 aa h1 hs);have HX:=hid hX;have HB:=hid hb;generalize K (m:Int)=s at*;subst hp;have Ut:(ns[m].kind==12)=false:=by simp [fV]
  clear hR hX hK hN ht hb aR c1 c2 c3 aJ fV h1;generalize ns[m].kind=kk at*;clear hm;generalize ns.length=L at*;go_enter Tryz.func149,Tryz.ntmps149;go_wp2_with (first|(go_at_call 201;refine(hC.out _ rV).mono ?_;rintro e w' ⟨rfl,hb1⟩;obtain⟨G,rfl⟩:=ay hb1;clear hb1));exact Oh
 ):p:=h
theorem K9 (h:p:=by
 obtain⟨m,rfl⟩:∃m:Nat,k=m:=⟨k.toNat,by omega⟩;have hm:m<ns.length:=aa;obtain⟨b,o,hp,hlt,c0,c1,c2,c3⟩:=bL hN hb hm;have aR:aB ns (m:Int)=ns[m].kind:=aY (List.getElem?_eq_getElem hm)
 first
 |(have:=K8;exact VJ)
 |(have:=La;exact VK)
 |(have:=Pr;exact VM)
 ):p:=h
theorem VN (h:p:=by
 have ht1:eY ns (m:Int)=ns[m].text:=by unfold eY;rw [Int.toNat_natCast,List.getElem?_eq_getElem hm]
 have hlT:bB ns E (m:Int) r d=(if decide (aH ns[m].kind ns[m].text.toList<r)=true then og (E (m:Int) d) else E (m:Int) d):=by
  unfold bB;rw [aR,ht1];by_cases hq:aH ns[m].kind ns[m].text.toList<r<;>simp [hq]
 rw [hlT] at hsz ⊢;have hq:=hid (yA ht hN h m hm);generalize A6:aH ns[m].kind ns[m].text.toList=q at*;have hB:=hid (fun(w1:World) (h1':Wr W0 B (.slice p ns.length c) u (d:Int) w1)=>AD ht hN aJ hE (m:Int) d (decide (q<r)) u w1 h1' h0 h1 hd hsz);have HW:=hid h;clear hE ht hN aJ hlT aR ht1 A6 h hsz;generalize (if decide (q<r)=true then og (E (m:Int) d) else E (m:Int) d)=s at*;clear hm h1;generalize ns.length=L at*;go_enter Tryz.func238,Tryz.ntmps238;exact Zd
 ):p:=h
theorem VO (h:p:=by
 have hv:=ht.all m ns[m] hm (List.getElem?_eq_getElem hm);have hlT:dR ns E (m:Int) d=(if(decide (aH ns[m].kind ns[m].text.toList<8)||decide (ns[m].kind=22))=true then og (E (m:Int) d) else E (m:Int) d):=by
  unfold dR;rw [aR] at hx ⊢;have:=hv.k1;have:=hv.yU;obtain⟨kk,bK⟩:∃kk:Nat,ns[m].kind=kk:=⟨ns[m].kind.toNat,by omega⟩;have hr:decide (aH ns[m].kind ns[m].text.toList<8)=decide (kk=27∨kk=28∨kk=29∨kk=30):=by
   rw [bK];unfold aH;by_cases YA:kk=30
   ·subst YA;rfl
   by_cases YB:kk=29
   ·subst YB;rfl
   by_cases YC:kk=28
   ·subst YC;rfl
   by_cases h27:kk=27
   ·subst h27;rw [if_neg ai,if_neg ai,if_neg ai,if_pos ai]
    repeat' split
    all_goals rfl
   ·rw [if_neg aa,if_neg aa,if_neg aa,if_neg aa];simp [YA,YB,YC,h27]
  rw [hr,bK,Int.toNat_natCast];rw [bK,Int.toNat_natCast] at hx;have tab:∀q:Nat,q<37→oh q=true→(isAtom q=true)=¬((decide (q=27∨q=28∨q=29∨q=30)||decide ((q:Int)=22))=true):=ew;have:=tab kk aa hx;by_cases ha:isAtom kk=true
  ·rw [if_pos ha];rw [this] at ha;rw [if_neg ha]
  ·rw [if_neg ha];rw [this] at ha;rw [if_pos (Classical.not_not.1 ha)]
 rw [hlT] at hsz ⊢;have hq:=hid (yA ht hN h m hm);obtain⟨b,o,hp,hlt,c0,-,-,-⟩:=bL hN h.below hm;generalize A6:aH ns[m].kind ns[m].text.toList=q at*;have hB:=hid (fun(w1:World) (h1':Wr W0 B (.slice p ns.length c) u (d:Int) w1)=>AD ht hN aJ hE (m:Int) d (decide (q<8)||decide (ns[m].kind=22)) u w1 h1' h0 h1 hd hsz);have HW:=hid h;have hl:(m:Int)<(ns.length:Int):=aa;clear hE ht hN aJ hlT aR A6 h hsz hv hx;generalize (if(decide (q<8)||decide (ns[m].kind=22))=true then og (E (m:Int) d) else E (m:Int) d)=s at*;generalize ns[m].kind=kk at*;clear hm h1;generalize ns.length=L at*;subst hp;by_cases hq8:q<8
 ·have hdec:(decide (q<8)||decide (kk=22))=true:=by simp [hq8]
  rw [hdec] at hB;clear hdec;go_enter Tryz.func198,Tryz.ntmps198;exact Zd
 ·have hle:8≤q:=by omega
  have dq:decide (q<8)=false:=cr;by_cases h22:kk=22
  ·subst h22;have hdec:(decide (q<8)||decide ((22:Int)=22))=true:=ak;rw [hdec] at hB;clear hdec hq8;exact Y1
  ·have hdec:(decide (q<8)||decide (kk=22))=false:=by simp [hq8,h22]
   rw [hdec] at hB;have e22:(kk==22)=false:=by simp [h22]
   clear hdec hq8 h22;exact Y1
 ):p:=h
theorem VP (h:p:=by
 obtain⟨b,o,hp,hlt,c0,-,-,-⟩:=bL hN h.below hm;have hl:(m:Int)<(ns.length:Int):=aa;have cw:=h.cell0;have lw:=h.size;by_cases fV:ns[m].kind=12
 ·rw [fV] at c0;unfold bO;rw [if_pos (by rw [aR,fV]),fJ];have H:=hid h;subst hp;clear hK hN aJ hsz aR fV h hm h1;generalize ns.length=L at*;go_enter Tryz.func145,Tryz.ntmps145;go_wp2;go_end0;exact⟨rfl,H.out,Kp.refl _ _⟩
 ·unfold bO at hsz ⊢;rw [if_neg (by rw [aR];exact fV)] at hsz ⊢;have Ut:(ns[m].kind==12)=false:=by simp [fV]
  have QB:(ns[m].kind !=12)=true:=by simp [fV]
  have aj:=hsz;simp only [ByteArray.size_append] at aj;have hC:=hid (fun(u:ByteArray) (w:World) hw hs=>hK (m:Int) z u w hw h0 h1 hs);generalize K (m:Int)=s at*;subst hp;have cI:=hid (Kp.refl B w);have cR:=hid (cW h ⟨#[58,32]⟩ aa);clear aR;generalize ns[m].kind=kk at*;clear hK hN aJ hsz fV h hm h1;generalize ns.length=L at*;go_enter Tryz.func145,Tryz.ntmps145;go_wp2_with (go_at_call 44;with_reducible refine(cR.out).mono ?_);rintro e w1 ⟨rfl,h1,aR⟩;have cm:=hid (cI.out.trans aR);have dG:=hid (hC.out _ w1 h1 vq);clear h1 aR cR cI;go_wp2_with (go_at_call 195;with_reducible refine(dG.out).mono ?_);exact Zw
 ):p:=h
theorem VQ (h:p:=by
 obtain⟨b,o,hp,hlt,c0,-,-,-⟩:=bL hN h.below hm;have hl:(m:Int)<(ns.length:Int):=aa;have cw:=h.cell0;have lw:=h.size;by_cases fV:ns[m].kind=12
 ·rw [fV] at c0;rw [if_pos (by rw [aR,fV]),fJ];have H:=hid h;subst hp;clear hE hN aJ hsz aR fV h hm h1;generalize ns.length=L at*;go_enter Tryz.func146,Tryz.ntmps146;go_wp2;go_end0;exact⟨rfl,H.out,Kp.refl _ _⟩
 ·rw [if_neg (by rw [aR];exact fV)] at hsz ⊢;have Ut:(ns[m].kind==12)=false:=by simp [fV]
  have QB:(ns[m].kind !=12)=true:=by simp [fV]
  have aj:=hsz;simp only [ByteArray.size_append] at aj;have hC:=hid (fun(u:ByteArray) (w:World) hw hs=>hE (m:Int) d u w hw h0 h1 hd hs);generalize E (m:Int) d=s at*;subst hp;have cI:=hid (Kp.refl B w);have cR:=hid (cW h sg aa);clear aR;generalize ns[m].kind=kk at*;clear hE hN aJ hsz fV h hm h1;generalize ns.length=L at*;go_enter Tryz.func146,Tryz.ntmps146;go_wp2_with (go_at_call 44;with_reducible refine(cR.out).mono ?_);rintro e w1 ⟨rfl,h1,aR⟩;have cm:=hid (cI.out.trans aR);have dG:=hid (hC.out _ w1 h1 vq);clear h1 aR cR cI;go_wp2_with (go_at_call 148;with_reducible refine(dG.out).mono ?_);exact Zw
 ):p:=h
theorem E7 (h:p:=by
 obtain⟨m,rfl⟩:∃m:Nat,k=m:=⟨k.toNat,by omega⟩;have hm:m<ns.length:=aa;have aR:aB ns (m:Int)=ns[m].kind:=aY (List.getElem?_eq_getElem hm)
 first
 |(have:=Jj;exact VN)
 |(have:=Jk;exact VO)
 |(have:=LI;exact VP)
 |(have:=LJ;exact VQ)
 ):p:=h
theorem VS (h:p:=by
 go_enter Tryz.func134,Tryz.ntmps134;go_wp2;go_ret;exact⟨by rw [Hn.out];rfl,Below.refl _ _⟩
 ):p:=h
theorem VT (h:p:=by
 go_enter Tryz.func79,Tryz.ntmps79;go_wp2;go_ret;exact⟨by rw [Hn.out];rfl,Below.refl _ _⟩
 ):p:=h
theorem XP (h:p:=by
 have he:(s.toList==[])=true:=by
  rw [ByteArray.toList_eq,List.eq_nil_of_length_eq_zero (show s.data.toList.length=0 by omega)];rfl
 have hn:cY s.data.toList=false:=by rw [List.eq_nil_of_length_eq_zero (show s.data.toList.length=0 by omega)];rfl
 have Hn:=hid hn;clear hn h0 gD
 first
 |(have:=Kj;exact VS)
 |(have:=Pt;exact VT)
 ):p:=h
theorem acX (h:p:=by
 have VU:=trivial;exact qh
 ):p:=h
theorem acY (h:p:=by
 have VV:=trivial;exact Iq
 ):p:=h
theorem acZ (h:p:=by
 have VW:=trivial;exact Iq
 ):p:=h
theorem ac0 (h:p:=by
 have VX:=trivial;exact Iq
 ):p:=h
theorem ac1 (h:p:=by
 have vE:2<ns[m].kids.length:=Nat.lt_of_lt_of_le ai bK;obtain⟨bk2,ok2,rA,VY,Ir⟩:=cC hN (Below.refl _ _) hm vE;have BH:=bZ 2 vE;have Pu:(2:Int)<(ns[m].kids.length:Int):=aa;obtain⟨R,hR⟩:∃R,R=bP d++aQ ns E K S ns[m] d++(⟨#[10]⟩:ByteArray):=⟨_,rfl⟩;rw [←hR] at hsz ⊢;have hX:R=bP d++((⟨#[105,102,32]⟩:ByteArray)++E (ns[m].kids.getD 0 0) d++(⟨#[32,116,104,101,110,10]⟩:ByteArray)++aL ns S (ns[m].kids.getD 1 0) (d+1)++bP d++(⟨#[101,110,100]⟩:ByteArray))++(⟨#[10]⟩:ByteArray):=by
  have VZ:=trivial;exact ahh
 have aj:=hsz;rw [hX] at aj
 try simp only [ByteArray.size_append] at aj
 obtain⟨zf,Iu⟩:∃z:Nat,ns[m].kids.getD 2 0=z:=⟨(ns[m].kids.getD 2 0).toNat,by omega⟩;have hzl:zf<ns.length:=aa;have ZU:(zf:Int)<(ns.length:Int):=aa;obtain⟨b',o',xX,Pv,dN,-,-,-⟩:=bL hN (Below.refl _ _) hzl;rw [hp] at xX;cases xX;have Ay:ns[zf].kind=aB ns (ns[m].kids.getD 2 0):=by rw [Iu];exact(aY (List.getElem?_eq_getElem hzl)).symm
 rw [Ay] at dN;rw [B0] at dN;have LN:=hid (And.intro Pv dN);have dm:=hid (fun(u:ByteArray) (w:World) (hw:Wr W0 B (.slice p ns.length c) u (d:Int) w) (hs:u.size+(E (ns[m].kids.getD 0 0) d).size≤1000000000)=>hE (ns[m].kids.getD 0 0) d u w hw eA.1 aa aa hs);have kj:=hid (fun(u:ByteArray) (w:World) (hw:Wr W0 B (.slice p ns.length c) u (d:Int) w) (hs:u.size+(aL ns S (ns[m].kids.getD 1 0) (d+1)).size≤1000000000)=>nA ht hN aJ hS (ns[m].kids.getD 1 0) (d:Int) (d+1) aa u w hw iq.1 aa aa aa hs);have iM:d≤2000:=aa;rw [Iu] at Ir;clear Pv dN Ay;generalize E (ns[m].kids.getD 0 0) d=s0 at*;generalize aL ns S (ns[m].kids.getD 1 0) (d+1)=s1 at*;generalize ns[m].kids.getD 0 0=k0 at*;generalize ns[m].kids.getD 1 0=k1 at*;have gy:=hid hX;have cw:=h.cell0;have lw:=h.size;have H:=hid h;rw [bf] at fA rA;cases fA;cases rA;have LK:=hid (And.intro aS True.intro);have rB:aq<w.heap.size:=Nat.lt_of_lt_of_le aS H.out.below.size;have dI:=(H.out.below.cell (p:=⟨aq,_,none⟩) aS).trans dQ;have pN:=(H.out.below.cell (p:=⟨aq,_,none⟩) aS).trans oM;have ac2:=(H.out.below.cell (p:=⟨aq,_,none⟩) aS).trans Ir;rw [Nat.add_zero] at dI;rw [Nat.add_zero] at dQ;have ij:=hid dQ;have nX:=hid oM;have Jh:=hid Ir;clear hE hK hS hR hX hN ht hv aT aJ hsz bK aX hf hIn bZ h eA dQ iq oM BH Ir aS Bl VY Iu B0;generalize ns[m]=x at*;obtain⟨xk,xt,xp,xc,aK,aP⟩:=x;simp only at c0 c1 c2 c3 hk aj gy bu dY gC mA vE Pu bf ⊢;subst hk hp;clear hm hzl;subst bf;generalize ns.length=L at*;generalize aK.length=xl at*;have bQ:Below w.heap.size w (w.alloc (.cells #[.int .i64 8,.string xt,.slice (some ⟨aq,aU,none⟩) xl xc,.int .i64 aP] 56)):=bA (Below.refl _ _) _;have h0:=H.out.later bQ;have cI:=hid (aC (B:=B) bQ);have dW:=hid (heap_alloc_new w (.cells #[.int .i64 8,.string xt,.slice (some ⟨aq,aU,none⟩) xl xc,.int .i64 aP] 56));have dH:w.heap.size≠B:=aa;have hP:=pV h0 iM bg;have cR:=hid hP;clear bQ h0 hP H;go_enter Tryz.func95,Tryz.ntmps95;go_wp2_with (go_at_call 144;with_reducible refine(cR.out).mono ?_);rintro e w1 ⟨rfl,h1,aR⟩;have cm:=hid (cI.out.trans aR);have dJ:=hid (aR.2 _ _ _ dW.out ai dH);have CG:w1.cell? ⟨w.heap.size,0,none⟩=some (.int .i64 8):=cJ;have lF:w1.cell? ⟨w.heap.size,1,none⟩=some (.string xt):=cJ;have lG:w1.cell? ⟨w.heap.size,2,none⟩=some (.slice (some ⟨aq,aU,none⟩) xl xc):=cJ;have lH:w.heap.size<w1.heap.size:=(Array.getElem?_eq_some_iff.1 dJ.out).1;have je:=(h1.below.cell (p:=⟨aq,_,none⟩) LK.out.1).trans ij.out;have vF:=(h1.below.cell (p:=⟨aq,_,none⟩) LK.out.1).trans nX.out;have ac3:=(h1.below.cell (p:=⟨aq,_,none⟩) LK.out.1).trans Jh.out;have rC:aq<w1.heap.size:=Nat.lt_of_lt_of_le LK.out.1 h1.below.size;have cS1:=h1.cell0;have lS1:=h1.size;have cN1:=(h1.below.cell (p:=⟨b,_,none⟩) LN.out.1).trans LN.out.2;have lN1:b<w1.heap.size:=Nat.lt_of_lt_of_le LN.out.1 h1.below.size;have dG:=hid (cW h1 ⟨#[105,102,32]⟩ bg);clear h1 aR cR cI dW rB dI pN ac2;go_wp2_with (go_at_call 44;with_reducible refine(dG.out).mono ?_);rintro e w2 ⟨rfl,h2,hk2⟩;have eD:=hid (cm.out.trans hk2);have fW:=hid (hk2.2 _ _ _ dJ.out ai dH);have Ij:w2.cell? ⟨w.heap.size,0,none⟩=some (.int .i64 8):=cg;have sW:w2.cell? ⟨w.heap.size,1,none⟩=some (.string xt):=cg;have tG:w2.cell? ⟨w.heap.size,2,none⟩=some (.slice (some ⟨aq,aU,none⟩) xl xc):=cg;have tH:w.heap.size<w2.heap.size:=(Array.getElem?_eq_some_iff.1 fW.out).1;have lC:=(h2.below.cell (p:=⟨aq,_,none⟩) LK.out.1).trans ij.out;have vG:=(h2.below.cell (p:=⟨aq,_,none⟩) LK.out.1).trans nX.out;have ac4:=(h2.below.cell (p:=⟨aq,_,none⟩) LK.out.1).trans Jh.out;have wq:aq<w2.heap.size:=Nat.lt_of_lt_of_le LK.out.1 h2.below.size;have cS2:=h2.cell0;have lS2:=h2.size;have cN2:=(h2.below.cell (p:=⟨b,_,none⟩) LN.out.1).trans LN.out.2;have lN2:b<w2.heap.size:=Nat.lt_of_lt_of_le LN.out.1 h2.below.size;have eI:=hid (dm.out _ w2 h2 bg);clear h2 hk2 dG cm dJ lF lG lH je vF ac3 rC CG cN1 lN1;go_wp2_with (go_at_call 148;with_reducible refine(eI.out).mono ?_);rintro e w3 ⟨rfl,h3,hk3⟩;have lJ:=hid (eD.out.trans hk3);have lI:=hid (hk3.2 _ _ _ fW.out ai dH);have QO:w3.cell? ⟨w.heap.size,0,none⟩=some (.int .i64 8):=ey;have Ih:w3.cell? ⟨w.heap.size,1,none⟩=some (.string xt):=ey;have Ii:w3.cell? ⟨w.heap.size,2,none⟩=some (.slice (some ⟨aq,aU,none⟩) xl xc):=ey;have Jf:w.heap.size<w3.heap.size:=(Array.getElem?_eq_some_iff.1 lI.out).1;have vu:=(h3.below.cell (p:=⟨aq,_,none⟩) LK.out.1).trans ij.out;have zY:=(h3.below.cell (p:=⟨aq,_,none⟩) LK.out.1).trans nX.out;have ac5:=(h3.below.cell (p:=⟨aq,_,none⟩) LK.out.1).trans Jh.out;have FM:aq<w3.heap.size:=Nat.lt_of_lt_of_le LK.out.1 h3.below.size;have cS3:=h3.cell0;have lS3:=h3.size;have cN3:=(h3.below.cell (p:=⟨b,_,none⟩) LN.out.1).trans LN.out.2;have lN3:b<w3.heap.size:=Nat.lt_of_lt_of_le LN.out.1 h3.below.size;have vv:=hid (cW h3 ⟨#[32,116,104,101,110,10]⟩ bg);clear h3 hk3 eI eD fW sW tG tH lC vG ac4 wq Ij cN2 lN2;go_wp2_with (go_at_call 44;with_reducible refine(vv.out).mono ?_);rintro e w4 ⟨rfl,h4,hk4⟩;have zV:=hid (lJ.out.trans hk4);have BS:=hid (hk4.2 _ _ _ lI.out ai dH);have cV4:w4.cell? ⟨w.heap.size,0,none⟩=some (.int .i64 8):=lg;have cY4:w4.cell? ⟨w.heap.size,1,none⟩=some (.string xt):=lg;have cZ4:w4.cell? ⟨w.heap.size,2,none⟩=some (.slice (some ⟨aq,aU,none⟩) xl xc):=lg;have lY4:w.heap.size<w4.heap.size:=(Array.getElem?_eq_some_iff.1 BS.out).1;have Iw:=(h4.below.cell (p:=⟨aq,_,none⟩) LK.out.1).trans ij.out;have Iy:=(h4.below.cell (p:=⟨aq,_,none⟩) LK.out.1).trans nX.out;have ac6:=(h4.below.cell (p:=⟨aq,_,none⟩) LK.out.1).trans Jh.out;have lK4:aq<w4.heap.size:=Nat.lt_of_lt_of_le LK.out.1 h4.below.size;have cS4:=h4.cell0;have lS4:=h4.size;have cN4:=(h4.below.cell (p:=⟨b,_,none⟩) LN.out.1).trans LN.out.2;have lN4:b<w4.heap.size:=Nat.lt_of_lt_of_le LN.out.1 h4.below.size;have FR:=hid (kj.out _ w4 h4 bg);clear h4 hk4 vv lJ lI Ih Ii Jf vu zY ac5 FM QO cN3 lN3;go_wp2_with (go_at_call 46;with_reducible refine(FR.out).mono ?_);rintro e w5 ⟨rfl,h5,wu⟩;have xY:=hid (zV.out.trans wu);have zZ:=hid (wu.2 _ _ _ BS.out ai dH);have cV5:w5.cell? ⟨w.heap.size,0,none⟩=some (.int .i64 8):=ql;have cY5:w5.cell? ⟨w.heap.size,1,none⟩=some (.string xt):=ql;have cZ5:w5.cell? ⟨w.heap.size,2,none⟩=some (.slice (some ⟨aq,aU,none⟩) xl xc):=ql;have lY5:w.heap.size<w5.heap.size:=(Array.getElem?_eq_some_iff.1 zZ.out).1;have V0:=(h5.below.cell (p:=⟨aq,_,none⟩) LK.out.1).trans ij.out;have V1:=(h5.below.cell (p:=⟨aq,_,none⟩) LK.out.1).trans nX.out;have ahi:=(h5.below.cell (p:=⟨aq,_,none⟩) LK.out.1).trans Jh.out;have lK5:aq<w5.heap.size:=Nat.lt_of_lt_of_le LK.out.1 h5.below.size;have cS5:=h5.cell0;have lS5:=h5.size;have cN5:=(h5.below.cell (p:=⟨b,_,none⟩) LN.out.1).trans LN.out.2;have lN5:b<w5.heap.size:=Nat.lt_of_lt_of_le LN.out.1 h5.below.size;have Pw:=hid (show Calls Tryz.prog 144 #[.pointer (some ⟨B,0,none⟩),.slice (some ⟨w5.heap.size,0,none⟩) 1 1] (w5.alloc (.cells #[.string ⟨#[101,110,100]⟩] 9)).drew _ from Bu (h5.later (Below.refl _ _).drew) iM ⟨#[101,110,100]⟩ bg);replace xY:=hid (xY.out.trans (aC (B:=B) (Below.refl w5.heap.size w5).drew));have FT:=hid (show(w5.drew).heap[w.heap.size]?=_ from zZ.out);clear h5 wu FR zV BS cY4 cZ4 lY4 Iw Iy ac6 lK4 cV4 cN4 lN4;clear zZ;have zZ:=FT;clear FT;go_wp2;go_still ah;go_wp2_with (go_at_call 144;with_reducible refine(Pw.out).mono ?_);rintro e w6 ⟨rfl,h6,xL⟩;have Zh:=hid (xY.out.trans xL);have Zi:=hid (xL.2 _ _ _ zZ.out ai dH);have TD:=hid (cW h6 ⟨#[10]⟩ bg);clear h6 xL Pw xY zZ;exact Zg
 ):p:=h
theorem ac7 (h:p:=by
 have vE:2<ns[m].kids.length:=Nat.lt_of_lt_of_le ai bK;obtain⟨bk2,ok2,rA,VY,Ir⟩:=cC hN (Below.refl _ _) hm vE;have BH:=bZ 2 vE;have Pu:(2:Int)<(ns[m].kids.length:Int):=aa;obtain⟨R,hR⟩:∃R,R=bP d++aQ ns E K S ns[m] d++(⟨#[10]⟩:ByteArray):=⟨_,rfl⟩;rw [←hR] at hsz ⊢;have hX:R=bP d++((⟨#[105,102,32]⟩:ByteArray)++E (ns[m].kids.getD 0 0) d++(⟨#[32,116,104,101,110,10]⟩:ByteArray)++aL ns S (ns[m].kids.getD 1 0) (d+1)++(bP d++(⟨#[101,108,115,101,10]⟩:ByteArray)++aL ns S (ns[m].kids.getD 2 0) (d+1))++bP d++(⟨#[101,110,100]⟩:ByteArray))++(⟨#[10]⟩:ByteArray):=by
  have V2:=trivial;exact ahh
 have aj:=hsz;rw [hX] at aj
 try simp only [ByteArray.size_append] at aj
 obtain⟨zf,Iu⟩:∃z:Nat,ns[m].kids.getD 2 0=z:=⟨(ns[m].kids.getD 2 0).toNat,by omega⟩;have hzl:zf<ns.length:=aa;have ZU:(zf:Int)<(ns.length:Int):=aa;obtain⟨b',o',xX,Pv,dN,-,-,-⟩:=bL hN (Below.refl _ _) hzl;rw [hp] at xX;cases xX;have Ay:ns[zf].kind=aB ns (ns[m].kids.getD 2 0):=by rw [Iu];exact(aY (List.getElem?_eq_getElem hzl)).symm
 rw [Ay] at dN;have Ut:(aB ns (ns[m].kids.getD 2 0)==12)=false:=by rw [beq_eq_false_iff_ne];exact B0
 have QB:(aB ns (ns[m].kids.getD 2 0) !=12)=true:=by rw [bne_iff_ne];exact B0
 generalize aB ns (ns[m].kids.getD 2 0)=zk at dN Ut QB;have LN:=hid (And.intro Pv dN);have dm:=hid (fun(u:ByteArray) (w:World) (hw:Wr W0 B (.slice p ns.length c) u (d:Int) w) (hs:u.size+(E (ns[m].kids.getD 0 0) d).size≤1000000000)=>hE (ns[m].kids.getD 0 0) d u w hw eA.1 aa aa hs);have kj:=hid (fun(u:ByteArray) (w:World) (hw:Wr W0 B (.slice p ns.length c) u (d:Int) w) (hs:u.size+(aL ns S (ns[m].kids.getD 1 0) (d+1)).size≤1000000000)=>nA ht hN aJ hS (ns[m].kids.getD 1 0) (d:Int) (d+1) aa u w hw iq.1 aa aa aa hs);have Iz:=hid (fun(u:ByteArray) (w:World) (hw:Wr W0 B (.slice p ns.length c) u (d:Int) w) (hs:u.size+(aL ns S (ns[m].kids.getD 2 0) (d+1)).size≤1000000000)=>nA ht hN aJ hS (ns[m].kids.getD 2 0) (d:Int) (d+1) aa u w hw BH.1 aa aa aa hs);have iM:d≤2000:=aa;rw [Iu] at Ir;rw [Iu] at aj hX Iz;clear Pv dN Ay;generalize aL ns S (zf:Int) (d+1)=s2 at*;generalize E (ns[m].kids.getD 0 0) d=s0 at*;generalize aL ns S (ns[m].kids.getD 1 0) (d+1)=s1 at*;generalize ns[m].kids.getD 0 0=k0 at*;generalize ns[m].kids.getD 1 0=k1 at*;have gy:=hid hX;have cw:=h.cell0;have lw:=h.size;have H:=hid h;rw [bf] at fA rA;cases fA;cases rA;have LK:=hid (And.intro aS True.intro);have rB:aq<w.heap.size:=Nat.lt_of_lt_of_le aS H.out.below.size;have dI:=(H.out.below.cell (p:=⟨aq,_,none⟩) aS).trans dQ;have pN:=(H.out.below.cell (p:=⟨aq,_,none⟩) aS).trans oM;have ac2:=(H.out.below.cell (p:=⟨aq,_,none⟩) aS).trans Ir;rw [Nat.add_zero] at dI;rw [Nat.add_zero] at dQ;have ij:=hid dQ;have nX:=hid oM;have Jh:=hid Ir;clear hE hK hS hR hX hN ht hv aT aJ hsz bK aX hf hIn bZ h eA dQ iq oM BH Ir aS Bl VY Iu B0;generalize ns[m]=x at*;obtain⟨xk,xt,xp,xc,aK,aP⟩:=x;simp only at c0 c1 c2 c3 hk aj gy bu dY gC mA vE Pu bf ⊢;subst hk hp;clear hm hzl;subst bf;generalize ns.length=L at*;generalize aK.length=xl at*;have bQ:Below w.heap.size w (w.alloc (.cells #[.int .i64 8,.string xt,.slice (some ⟨aq,aU,none⟩) xl xc,.int .i64 aP] 56)):=bA (Below.refl _ _) _;have h0:=H.out.later bQ;have cI:=hid (aC (B:=B) bQ);have dW:=hid (heap_alloc_new w (.cells #[.int .i64 8,.string xt,.slice (some ⟨aq,aU,none⟩) xl xc,.int .i64 aP] 56));have dH:w.heap.size≠B:=aa;have hP:=pV h0 iM bg;have cR:=hid hP;clear bQ h0 hP H;go_enter Tryz.func95,Tryz.ntmps95;go_wp2_with (go_at_call 144;with_reducible refine(cR.out).mono ?_);rintro e w1 ⟨rfl,h1,aR⟩;have cm:=hid (cI.out.trans aR);have dJ:=hid (aR.2 _ _ _ dW.out ai dH);have CG:w1.cell? ⟨w.heap.size,0,none⟩=some (.int .i64 8):=cJ;have lF:w1.cell? ⟨w.heap.size,1,none⟩=some (.string xt):=cJ;have lG:w1.cell? ⟨w.heap.size,2,none⟩=some (.slice (some ⟨aq,aU,none⟩) xl xc):=cJ;have lH:w.heap.size<w1.heap.size:=(Array.getElem?_eq_some_iff.1 dJ.out).1;have je:=(h1.below.cell (p:=⟨aq,_,none⟩) LK.out.1).trans ij.out;have vF:=(h1.below.cell (p:=⟨aq,_,none⟩) LK.out.1).trans nX.out;have ac3:=(h1.below.cell (p:=⟨aq,_,none⟩) LK.out.1).trans Jh.out;have rC:aq<w1.heap.size:=Nat.lt_of_lt_of_le LK.out.1 h1.below.size;have cS1:=h1.cell0;have lS1:=h1.size;have cN1:=(h1.below.cell (p:=⟨b,_,none⟩) LN.out.1).trans LN.out.2;have lN1:b<w1.heap.size:=Nat.lt_of_lt_of_le LN.out.1 h1.below.size;have dG:=hid (cW h1 ⟨#[105,102,32]⟩ bg);clear h1 aR cR cI dW rB dI pN ac2;go_wp2_with (go_at_call 44;with_reducible refine(dG.out).mono ?_);rintro e w2 ⟨rfl,h2,hk2⟩;have eD:=hid (cm.out.trans hk2);have fW:=hid (hk2.2 _ _ _ dJ.out ai dH);have Ij:w2.cell? ⟨w.heap.size,0,none⟩=some (.int .i64 8):=cg;have sW:w2.cell? ⟨w.heap.size,1,none⟩=some (.string xt):=cg;have tG:w2.cell? ⟨w.heap.size,2,none⟩=some (.slice (some ⟨aq,aU,none⟩) xl xc):=cg;have tH:w.heap.size<w2.heap.size:=(Array.getElem?_eq_some_iff.1 fW.out).1;have lC:=(h2.below.cell (p:=⟨aq,_,none⟩) LK.out.1).trans ij.out;have vG:=(h2.below.cell (p:=⟨aq,_,none⟩) LK.out.1).trans nX.out;have ac4:=(h2.below.cell (p:=⟨aq,_,none⟩) LK.out.1).trans Jh.out;have wq:aq<w2.heap.size:=Nat.lt_of_lt_of_le LK.out.1 h2.below.size;have cS2:=h2.cell0;have lS2:=h2.size;have cN2:=(h2.below.cell (p:=⟨b,_,none⟩) LN.out.1).trans LN.out.2;have lN2:b<w2.heap.size:=Nat.lt_of_lt_of_le LN.out.1 h2.below.size;have eI:=hid (dm.out _ w2 h2 bg);clear h2 hk2 dG cm dJ lF lG lH je vF ac3 rC CG cN1 lN1;go_wp2_with (go_at_call 148;with_reducible refine(eI.out).mono ?_);rintro e w3 ⟨rfl,h3,hk3⟩;have lJ:=hid (eD.out.trans hk3);have lI:=hid (hk3.2 _ _ _ fW.out ai dH);have QO:w3.cell? ⟨w.heap.size,0,none⟩=some (.int .i64 8):=ey;have Ih:w3.cell? ⟨w.heap.size,1,none⟩=some (.string xt):=ey;have Ii:w3.cell? ⟨w.heap.size,2,none⟩=some (.slice (some ⟨aq,aU,none⟩) xl xc):=ey;have Jf:w.heap.size<w3.heap.size:=(Array.getElem?_eq_some_iff.1 lI.out).1;have vu:=(h3.below.cell (p:=⟨aq,_,none⟩) LK.out.1).trans ij.out;have zY:=(h3.below.cell (p:=⟨aq,_,none⟩) LK.out.1).trans nX.out;have ac5:=(h3.below.cell (p:=⟨aq,_,none⟩) LK.out.1).trans Jh.out;have FM:aq<w3.heap.size:=Nat.lt_of_lt_of_le LK.out.1 h3.below.size;have cS3:=h3.cell0;have lS3:=h3.size;have cN3:=(h3.below.cell (p:=⟨b,_,none⟩) LN.out.1).trans LN.out.2;have lN3:b<w3.heap.size:=Nat.lt_of_lt_of_le LN.out.1 h3.below.size;have vv:=hid (cW h3 ⟨#[32,116,104,101,110,10]⟩ bg);clear h3 hk3 eI eD fW sW tG tH lC vG ac4 wq Ij cN2 lN2;go_wp2_with (go_at_call 44;with_reducible refine(vv.out).mono ?_);rintro e w4 ⟨rfl,h4,hk4⟩;have zV:=hid (lJ.out.trans hk4);have BS:=hid (hk4.2 _ _ _ lI.out ai dH);have cV4:w4.cell? ⟨w.heap.size,0,none⟩=some (.int .i64 8):=lg;have cY4:w4.cell? ⟨w.heap.size,1,none⟩=some (.string xt):=lg;have cZ4:w4.cell? ⟨w.heap.size,2,none⟩=some (.slice (some ⟨aq,aU,none⟩) xl xc):=lg;have lY4:w.heap.size<w4.heap.size:=(Array.getElem?_eq_some_iff.1 BS.out).1;have Iw:=(h4.below.cell (p:=⟨aq,_,none⟩) LK.out.1).trans ij.out;have Iy:=(h4.below.cell (p:=⟨aq,_,none⟩) LK.out.1).trans nX.out;have ac6:=(h4.below.cell (p:=⟨aq,_,none⟩) LK.out.1).trans Jh.out;have lK4:aq<w4.heap.size:=Nat.lt_of_lt_of_le LK.out.1 h4.below.size;have cS4:=h4.cell0;have lS4:=h4.size;have cN4:=(h4.below.cell (p:=⟨b,_,none⟩) LN.out.1).trans LN.out.2;have lN4:b<w4.heap.size:=Nat.lt_of_lt_of_le LN.out.1 h4.below.size;have FR:=hid (kj.out _ w4 h4 bg);clear h4 hk4 vv lJ lI Ih Ii Jf vu zY ac5 FM QO cN3 lN3;go_wp2_with (go_at_call 46;with_reducible refine(FR.out).mono ?_);rintro e w5 ⟨rfl,h5,wu⟩;have xY:=hid (zV.out.trans wu);have zZ:=hid (wu.2 _ _ _ BS.out ai dH);have cV5:w5.cell? ⟨w.heap.size,0,none⟩=some (.int .i64 8):=ql;have cY5:w5.cell? ⟨w.heap.size,1,none⟩=some (.string xt):=ql;have cZ5:w5.cell? ⟨w.heap.size,2,none⟩=some (.slice (some ⟨aq,aU,none⟩) xl xc):=ql;have lY5:w.heap.size<w5.heap.size:=(Array.getElem?_eq_some_iff.1 zZ.out).1;have V0:=(h5.below.cell (p:=⟨aq,_,none⟩) LK.out.1).trans ij.out;have V1:=(h5.below.cell (p:=⟨aq,_,none⟩) LK.out.1).trans nX.out;have ahi:=(h5.below.cell (p:=⟨aq,_,none⟩) LK.out.1).trans Jh.out;have lK5:aq<w5.heap.size:=Nat.lt_of_lt_of_le LK.out.1 h5.below.size;have cS5:=h5.cell0;have lS5:=h5.size;have cN5:=(h5.below.cell (p:=⟨b,_,none⟩) LN.out.1).trans LN.out.2;have lN5:b<w5.heap.size:=Nat.lt_of_lt_of_le LN.out.1 h5.below.size;have Pw:=hid (show Calls Tryz.prog 144 #[.pointer (some ⟨B,0,none⟩),.slice (some ⟨w5.heap.size,0,none⟩) 1 1] (w5.alloc (.cells #[.string ⟨#[101,108,115,101,10]⟩] 9)).drew _ from Bu (h5.later (Below.refl _ _).drew) iM ⟨#[101,108,115,101,10]⟩ bg);replace xY:=hid (xY.out.trans (aC (B:=B) (Below.refl w5.heap.size w5).drew));have FT:=hid (show(w5.drew).heap[w.heap.size]?=_ from zZ.out);clear h5 wu FR zV BS cY4 cZ4 lY4 Iw Iy ac6 lK4 cV4 cN4 lN4;clear zZ;have zZ:=FT;clear FT;go_wp2;go_still ah;go_wp2_with (go_at_call 144;with_reducible refine(Pw.out).mono ?_);rintro e w6 ⟨rfl,h6,xL⟩;have Zh:=hid (xY.out.trans xL);have Zi:=hid (xL.2 _ _ _ zZ.out ai dH);have cV6:w6.cell? ⟨w.heap.size,0,none⟩=some (.int .i64 8):=xZ;have cY6:w6.cell? ⟨w.heap.size,1,none⟩=some (.string xt):=xZ;have cZ6:w6.cell? ⟨w.heap.size,2,none⟩=some (.slice (some ⟨aq,aU,none⟩) xl xc):=xZ;have lY6:w.heap.size<w6.heap.size:=(Array.getElem?_eq_some_iff.1 Zi.out).1;have akt:=(h6.below.cell (p:=⟨aq,_,none⟩) LK.out.1).trans ij.out;have aku:=(h6.below.cell (p:=⟨aq,_,none⟩) LK.out.1).trans nX.out;have anV:=(h6.below.cell (p:=⟨aq,_,none⟩) LK.out.1).trans Jh.out;have lK6:aq<w6.heap.size:=Nat.lt_of_lt_of_le LK.out.1 h6.below.size;have cS6:=h6.cell0;have lS6:=h6.size;have cN6:=(h6.below.cell (p:=⟨b,_,none⟩) LN.out.1).trans LN.out.2;have lN6:b<w6.heap.size:=Nat.lt_of_lt_of_le LN.out.1 h6.below.size;have TD:=hid (Iz.out _ w6 h6 bg);clear h6 xL Pw xY zZ cY5 cZ5 lY5 V0 V1 ahi lK5 cV5 cN5 lN5;go_wp2_with (go_at_call 46;with_reducible refine(TD.out).mono ?_);rintro e w7 ⟨rfl,h7,NN⟩;have HK7:=hid (Zh.out.trans NN);have HY7:=hid (NN.2 _ _ _ Zi.out ai dH);have HP7:=hid (Bu h7 iM ⟨#[101,110,100]⟩ bg);clear h7 NN TD Zh Zi;go_wp2_with (go_at_call 144;with_reducible refine(HP7.out).mono ?_);rintro e w8 ⟨rfl,h8,hk8⟩;have HK8:=hid (HK7.out.trans hk8);have HY8:=hid (hk8.2 _ _ _ HY7.out ai dH);have HP8:=hid (cW h8 ⟨#[10]⟩ bg);clear h8 hk8 HP7 HK7 HY7;go_wp2_with (go_at_call 44;with_reducible refine(HP8.out).mono ?_);rintro e w9 ⟨rfl,h9,hk9⟩;have HK9:=hid (HK8.out.trans hk9);have HY9:=hid (hk9.2 _ _ _ HY8.out ai dH);have HF:=hid (And.intro h9 HK9.out);clear h9 hk9 HP8 HK9;exact Ez
 ):p:=h
theorem Im (h:p:=by
 have bu:0<ns[m].kids.length:=Nat.lt_of_lt_of_le ai bK;obtain⟨aq,aU,bf,aS,dQ⟩:=cC hN (Below.refl _ _) hm bu;have eA:=bZ 0 bu;have dY:(0:Int)<(ns[m].kids.length:Int):=aa;have gC:1<ns[m].kids.length:=Nat.lt_of_lt_of_le ai bK;obtain⟨bk1,ok1,fA,Bl,oM⟩:=cC hN (Below.refl _ _) hm gC;have iq:=bZ 1 gC;have mA:(1:Int)<(ns[m].kids.length:Int):=aa
 first
 |(have:=TL;exact acX)
 |(have:=T4;exact acY)
 |(have:=T6;exact acZ)
 |(have:=Ua;exact ac0)
 |(have:=Ue;exact ac1)
 |(have:=Ug;exact ac7)
 ):p:=h
theorem ac8 (h:p:=by
 have Px:=trivial;exact qh
 ):p:=h
theorem ac9 (h:p:=by
 have Py:=trivial;exact qh
 ):p:=h
theorem ada (h:p:=by
 have Pz:=trivial;exact qh
 ):p:=h
theorem adb (h:p:=by
 have PA:=trivial;exact qh
 ):p:=h
theorem ade (h:p:=by
 have V3:=trivial;exact Iq
 ):p:=h
theorem adf (h:p:=by
 have V4:=trivial;exact Iq
 ):p:=h
theorem adg (h:p:=by
 have V5:=trivial;exact Iq
 ):p:=h
theorem ED (h:p:=by
 have bu:0<ns[m].kids.length:=Nat.lt_of_lt_of_le ai bK;obtain⟨aq,aU,bf,aS,dQ⟩:=cC hN (Below.refl _ _) hm bu;have eA:=bZ 0 bu;have dY:(0:Int)<(ns[m].kids.length:Int):=aa
 first
 |(have:=TI;exact ac8)
 |(have:=TJ;exact ac9)
 |(have:=TK;exact ada)
 |(have:=TP;exact adb)
 |(have:=TZ;exact ade)
 |(have:=T8;exact adf)
 |(have:=Uc;exact adg)
 ):p:=h
theorem adh (h:p:=by
 have hX:R=(⟨#[123]⟩:ByteArray)++jt ⟨#[44,32]⟩ (fun i=>cO ns K (ns[m].kids.getD i 0)) ns[m].kids.length++(⟨#[125]⟩:ByteArray):=ya;have aj:=hsz;rw [hX] at aj
 try simp only [ByteArray.size_append] at aj
 have hPC:∀(bx:Nat) (pE:bx≠B) i,i<ns[m].kids.length→∀(u:ByteArray) (w1:World),w1.heap[bx]?=some (.cells #[.pointer (some ⟨B,0,none⟩)] 73 (0,0))→Wr W0 B (.slice p ns.length c) u z w1→u.size+(cO ns K (ns[m].kids.getD i 0)).size≤1000000000→
   Calls Tryz.prog 235 #[.int .i64 (ns[m].kids.getD i 0),.pointer (some ⟨bx,0,none⟩)] w1 (aI W0 B (.slice p ns.length c) (u++cO ns K (ns[m].kids.getD i 0)) z w1):=fun bx pE i lq u w1 sU hw hs=>by
  obtain⟨h0,h1⟩:=hq i lq;have AO:=kr (c:=70) (f:=[]) hf ai ai (i:=i) (by show i<ns[m].kids.length - 0;omega);obtain⟨zz,hz⟩:∃zz:Nat,ns[m].kids.getD i 0=zz:=⟨(ns[m].kids.getD i 0).toNat,by omega⟩;rw [hz] at AO h0 h1 hs ⊢;have hzl:zz<ns.length:=aa;have h33:ns[zz].kind.toNat=33:=FU;have Ec:=bM (ht.all zz ns[zz] hzl (List.getElem?_eq_getElem hzl));rw [h33] at Ec;exact abo ht hN aJ hK zz z bx u w1 sU pE hw aa hzl Ec hs
 have HCl:=hid (fun(bx:Nat) (pE:bx≠B) (u:ByteArray) (w1:World) (sU:w1.heap[bx]?=some (.cells #[.pointer (some ⟨B,0,none⟩)] 73 (0,0))) (hw:Wr W0 B (.slice p ns.length c) u z w1) (hs:u.size+(jt ⟨#[44,32]⟩ (fun i=>cO ns K (ns[m].kids.getD i 0)) ns[m].kids.length).size≤1000000000)=>B1 ns[m].kids ns[m].kp ns[m].aG (fun i=>cO ns K (ns[m].kids.getD i 0)) u z w1 bx sU pE hw hIn aa (hPC bx pE) hs);clear hPC;generalize jt ⟨#[44,32]⟩ (fun i=>cO ns K (ns[m].kids.getD i 0)) ns[m].kids.length=t0 at*;have gy:=hid hX;have cw:=h.cell0;have lw:=h.size;have H:=hid h;clear hK hR hX hN ht hv aT aJ hsz bK aX hf hq jC hIn h;generalize ns[m]=x at*;obtain⟨xk,xt,xp,xc,aK,aP⟩:=x;simp only at c0 c1 c2 c3 hk gy QS HCl ⊢;subst hk hp;clear hm;generalize ns.length=L at*;generalize aK.length=xl at*;have bQ:Below w.heap.size w ((w.alloc (.cells #[.pointer (some ⟨B,0,none⟩)] 73)).alloc (.cells #[.int .i64 32,.string xt,.slice xp xl xc,.int .i64 aP] 56)):=bA (bA (Below.refl _ _) _) _;have h0:=H.out.later bQ;have cI:=hid (aC (B:=B) bQ);have jV:=hid (show((w.alloc (.cells #[.pointer (some ⟨B,0,none⟩)] 73)).alloc (.cells #[.int .i64 32,.string xt,.slice xp xl xc,.int .i64 aP] 56)).heap[w.heap.size]?=some (.cells #[.pointer (some ⟨B,0,none⟩)] 73 (0,0)) from dO (heap_alloc_new _ _));have dW:=hid (show((w.alloc (.cells #[.pointer (some ⟨B,0,none⟩)] 73)).alloc (.cells #[.int .i64 32,.string xt,.slice xp xl xc,.int .i64 aP] 56)).heap[w.heap.size+1]?=some (.cells #[.int .i64 32,.string xt,.slice xp xl xc,.int .i64 aP] 56 (0,0)) by
  have:=heap_alloc_new (w.alloc (.cells #[.pointer (some ⟨B,0,none⟩)] 73)) (.cells #[.int .i64 32,.string xt,.slice xp xl xc,.int .i64 aP] 56);simpa using this)
 have rq:w.heap.size≠B:=aa;have dH:w.heap.size+1≠B:=aa;have hP:=cW h0 ⟨#[123]⟩ bg;rw [World.size_alloc,World.size_alloc] at hP;have cR:=hid hP;clear bQ h0 hP H;go_enter Tryz.func195,Tryz.ntmps195;go_wp2_with (go_at_call 44;with_reducible refine(cR.out).mono ?_);rintro e w1 ⟨rfl,h1,aR⟩;have cm:=hid (cI.out.trans aR);have fT:=hid (aR.2 _ _ _ jV.out ai rq);have dJ:=hid (aR.2 _ _ _ dW.out ai dH);have vp:w1.cell? ⟨w.heap.size,0,none⟩=some (.pointer (some ⟨B,0,none⟩)):=kT;have TA:w.heap.size<w1.heap.size:=(Array.getElem?_eq_some_iff.1 fT.out).1;have lF:w1.cell? ⟨w.heap.size+1,1,none⟩=some (.string xt):=cJ;have lG:w1.cell? ⟨w.heap.size+1,2,none⟩=some (.slice xp xl xc):=cJ;have lH:w.heap.size+1<w1.heap.size:=(Array.getElem?_eq_some_iff.1 dJ.out).1;have dG:=hid (HCl.out w.heap.size rq _ w1 fT.out h1 bg);clear h1 aR cR cI jV dW;go_wp2_with (go_at_call 196;with_reducible refine(dG.out).mono ?_);rintro e w2 ⟨rfl,h2,hk2⟩;have eD:=hid (cm.out.trans hk2);have kK:=hid (hk2.2 _ _ _ fT.out ai rq);have fW:=hid (hk2.2 _ _ _ dJ.out ai dH);have wk:w2.cell? ⟨w.heap.size,0,none⟩=some (.pointer (some ⟨B,0,none⟩)):=sD;have lX2:w.heap.size<w2.heap.size:=(Array.getElem?_eq_some_iff.1 kK.out).1;have sW:w2.cell? ⟨w.heap.size+1,1,none⟩=some (.string xt):=cg;have tG:w2.cell? ⟨w.heap.size+1,2,none⟩=some (.slice xp xl xc):=cg;have tH:w.heap.size+1<w2.heap.size:=(Array.getElem?_eq_some_iff.1 fW.out).1;have eI:=hid (cW h2 ⟨#[125]⟩ bg);clear h2 hk2 dG cm fT dJ vp TA lF lG lH;go_wp2_with (go_at_call 44;with_reducible refine(eI.out).mono ?_);rintro e w3 ⟨rfl,h3,hk3⟩;have lJ:=hid (eD.out.trans hk3);have CE:=hid (hk3.2 _ _ _ kK.out ai rq);have lI:=hid (hk3.2 _ _ _ fW.out ai dH);have HF:=hid (And.intro h3 lJ.out);clear h3 hk3 eI lJ;exact zS
 ):p:=h
theorem adi (h:p:=by
 obtain⟨n1,xC⟩:∃n1,ns[m].kids.length=n1+1:=⟨ns[m].kids.length - 1,by have:1≤ns[m].kids.length:=bK;omega⟩;have hX:R=(⟨#[40]⟩:ByteArray)++jt ⟨#[44,32]⟩ (fun i=>K (ns[m].kids.getD i 0)) n1++(⟨#[41,32,45,62,32]⟩:ByteArray)++K (ns[m].kids.getD n1 0):=by rw [hR,bW,hk,xC];rfl
 have aj:=hsz;rw [hX] at aj
 try simp only [ByteArray.size_append] at aj
 have FV:=hq n1 aa;obtain⟨bk,ok,fO,fu,uD⟩:=jC n1 aa;have Ip:(ns[m].kids.take n1).length=n1:=by rw [List.length_take];omega
 have hIt:bC W0 (some ⟨bk,ok,none⟩) (ns[m].kids.take n1):=by
  exact ZB
 have hCl:∀(kc:Nat) (u:ByteArray) (w1:World),Wr W0 B (.slice p ns.length c) u z w1→u.size+(jt ⟨#[44,32]⟩ (fun i=>K (ns[m].kids.getD i 0)) n1).size≤1000000000→
   Calls Tryz.prog 196 #[.pointer (some ⟨B,0,none⟩),.slice (some ⟨bk,ok,none⟩) n1 kc,.func (.func 195) #[.pointer (some ⟨B,0,none⟩)] #[]] w1 (aI W0 B (.slice p ns.length c) (u++jt ⟨#[44,32]⟩ (fun i=>K (ns[m].kids.getD i 0)) n1) z w1):=fun kc u w1 hw hs=>by
  have h2:=B2 (ns[m].kids.take n1) (some ⟨bk,ok,none⟩) kc (fun i=>K (ns[m].kids.getD i 0)) u z w1 hw hIt aa (fun i hi u w1 hw hs=>by
   have e:(ns[m].kids.take n1).getD i 0=ns[m].kids.getD i 0:=by simp [List.getD,List.getElem?_take,show i<n1 by omega]
   rw [e];have:=hq i aa;exact hK _ z u w1 hw this.1 aa hs) (by rw [Ip];exact hs)
  rw [Ip] at h2;exact h2
 have HCl:=hid hCl;have QT:=hid (fun(u:ByteArray) (w:World) (hw:Wr W0 B (.slice p ns.length c) u z w) (hs:u.size+(K (ns[m].kids.getD n1 0)).size≤1000000000)=>hK (ns[m].kids.getD n1 0) z u w hw FV.1 aa hs);obtain⟨kc,mj⟩:∃kc,ns[m].aG=kc:=⟨_,rfl⟩;have hxn:(n1:Int)≤10000:=aa;have A7:(n1:Int)+1≤(kc:Int):=aa;have KQ:¬(kc:Int)=0:=aa;have KR:¬kc=0:=aa;have hk3:(n1:Int)≤(kc:Int):=aa;have hk4:n1≤kc:=aa;have wu:0<kc:=aa;have xL:(n1:Int)<(n1:Int)+1:=aa;have Gj:IntKind.i64.wrap (n1:Int)=(n1:Int):=Am.nQ aa aa;have LK:=hid (And.intro fu uD);rw [fO,xC,mj] at c2;clear hCl Ip hIt FV fO xC QS mj fu uD;generalize jt ⟨#[44,32]⟩ (fun i=>K (ns[m].kids.getD i 0)) n1=t0 at*;generalize ns[m].kids.getD n1 0=ka at*;generalize K ka=ta at*;have gy:=hid hX;have cw:=h.cell0;have lw:=h.size;have H:=hid h;clear hK hR hX hN ht hv aT aJ hsz bK aX hf hq jC hIn h;generalize ns[m]=x at*;obtain⟨xk,xt,xp,xc,aK,aP⟩:=x;simp only at c0 c1 c2 c3 hk gy ⊢;subst hk hp;clear hm;generalize ns.length=L at*;have bQ:Below w.heap.size w ((w.alloc (.cells #[.pointer (some ⟨B,0,none⟩)] 73)).alloc (.cells #[.int .i64 34,.string xt,.slice (some ⟨bk,ok,none⟩) (n1+1) kc,.int .i64 aP] 56)):=bA (bA (Below.refl _ _) _) _;have h0:=H.out.later bQ;have cI:=hid (aC (B:=B) bQ);have jV:=hid (show((w.alloc (.cells #[.pointer (some ⟨B,0,none⟩)] 73)).alloc (.cells #[.int .i64 34,.string xt,.slice (some ⟨bk,ok,none⟩) (n1+1) kc,.int .i64 aP] 56)).heap[w.heap.size]?=some (.cells #[.pointer (some ⟨B,0,none⟩)] 73 (0,0)) from dO (heap_alloc_new _ _));have dW:=hid (show((w.alloc (.cells #[.pointer (some ⟨B,0,none⟩)] 73)).alloc (.cells #[.int .i64 34,.string xt,.slice (some ⟨bk,ok,none⟩) (n1+1) kc,.int .i64 aP] 56)).heap[w.heap.size+1]?=some (.cells #[.int .i64 34,.string xt,.slice (some ⟨bk,ok,none⟩) (n1+1) kc,.int .i64 aP] 56 (0,0)) by
  have:=heap_alloc_new (w.alloc (.cells #[.pointer (some ⟨B,0,none⟩)] 73)) (.cells #[.int .i64 34,.string xt,.slice (some ⟨bk,ok,none⟩) (n1+1) kc,.int .i64 aP] 56);simpa using this)
 have rq:w.heap.size≠B:=aa;have dH:w.heap.size+1≠B:=aa;have hP:=cW h0 ⟨#[40]⟩ bg;rw [World.size_alloc,World.size_alloc] at hP;have cR:=hid hP;clear bQ h0 hP H;go_enter Tryz.func195,Tryz.ntmps195;go_wp2_with (go_at_call 44;with_reducible refine(cR.out).mono ?_);rintro e w1 ⟨rfl,h1,aR⟩;have cm:=hid (cI.out.trans aR);have fT:=hid (aR.2 _ _ _ jV.out ai rq);have dJ:=hid (aR.2 _ _ _ dW.out ai dH);have vp:w1.cell? ⟨w.heap.size,0,none⟩=some (.pointer (some ⟨B,0,none⟩)):=kT;have TA:w.heap.size<w1.heap.size:=(Array.getElem?_eq_some_iff.1 fT.out).1;have lF:w1.cell? ⟨w.heap.size+1,1,none⟩=some (.string xt):=cJ;have lG:w1.cell? ⟨w.heap.size+1,2,none⟩=some (.slice (some ⟨bk,ok,none⟩) (n1+1) kc):=cJ;have lH:w.heap.size+1<w1.heap.size:=(Array.getElem?_eq_some_iff.1 dJ.out).1;have cA1:=(h1.below.cell (p:=⟨bk,_,none⟩) LK.out.1).trans LK.out.2;have rC:bk<w1.heap.size:=Nat.lt_of_lt_of_le LK.out.1 h1.below.size;have dG:=hid (HCl.out kc _ _ (h1.later (Below.refl _ _).drew) bg);replace cm:=hid (cm.out.trans (aC (B:=B) (Below.refl w1.heap.size w1).drew));have B3:=hid (show(w1.drew).heap[w.heap.size]?=_ from fT.out);have FT:=hid (show(w1.drew).heap[w.heap.size+1]?=_ from dJ.out);clear h1 aR cR cI jV dW;clear fT dJ;have fT:=B3;have dJ:=FT;clear B3 FT;go_wp2;go_still_tail 7,ah;go_wp2_with (go_at_call 196;with_reducible refine(dG.out).mono ?_);rintro e w2 ⟨rfl,h2,hk2⟩;have eD:=hid (cm.out.trans hk2);have kK:=hid (hk2.2 _ _ _ fT.out ai rq);have fW:=hid (hk2.2 _ _ _ dJ.out ai dH);have wk:w2.cell? ⟨w.heap.size,0,none⟩=some (.pointer (some ⟨B,0,none⟩)):=sD;have lX2:w.heap.size<w2.heap.size:=(Array.getElem?_eq_some_iff.1 kK.out).1;have sW:w2.cell? ⟨w.heap.size+1,1,none⟩=some (.string xt):=cg;have tG:w2.cell? ⟨w.heap.size+1,2,none⟩=some (.slice (some ⟨bk,ok,none⟩) (n1+1) kc):=cg;have tH:w.heap.size+1<w2.heap.size:=(Array.getElem?_eq_some_iff.1 fW.out).1;have cA2:=(h2.below.cell (p:=⟨bk,_,none⟩) LK.out.1).trans LK.out.2;have wq:bk<w2.heap.size:=Nat.lt_of_lt_of_le LK.out.1 h2.below.size;have eI:=hid (cW h2 ⟨#[41,32,45,62,32]⟩ bg);clear h2 hk2 dG cm fT dJ vp TA lF lG lH cA1 rC;go_wp2_with (go_at_call 44;with_reducible refine(eI.out).mono ?_);rintro e w3 ⟨rfl,h3,hk3⟩;have lJ:=hid (eD.out.trans hk3);have CE:=hid (hk3.2 _ _ _ kK.out ai rq);have lI:=hid (hk3.2 _ _ _ fW.out ai dH);have cX3:w3.cell? ⟨w.heap.size,0,none⟩=some (.pointer (some ⟨B,0,none⟩)):=by simp [World.cell?,CE.out]
 have lX3:w.heap.size<w3.heap.size:=(Array.getElem?_eq_some_iff.1 CE.out).1;have Ih:w3.cell? ⟨w.heap.size+1,1,none⟩=some (.string xt):=ey;have Ii:w3.cell? ⟨w.heap.size+1,2,none⟩=some (.slice (some ⟨bk,ok,none⟩) (n1+1) kc):=ey;have Jf:w.heap.size+1<w3.heap.size:=(Array.getElem?_eq_some_iff.1 lI.out).1;have cA3:=(h3.below.cell (p:=⟨bk,_,none⟩) LK.out.1).trans LK.out.2;have FM:bk<w3.heap.size:=Nat.lt_of_lt_of_le LK.out.1 h3.below.size;have vv:=hid (QT.out _ _ (h3.later (Below.refl _ _).drew) bg);replace lJ:=hid (lJ.out.trans (aC (B:=B) (Below.refl w3.heap.size w3).drew));have B3:=hid (show(w3.drew).heap[w.heap.size]?=_ from CE.out);have FT:=hid (show(w3.drew).heap[w.heap.size+1]?=_ from lI.out);clear h3 hk3 eI eD kK fW wk lX2 sW tG tH cA2 wq;clear CE lI;have CE:=B3;have lI:=FT;clear B3 FT;go_wp2;go_still_tail 6,ah;go_wp2_with (go_at_call 195;with_reducible refine(vv.out).mono ?_);rintro e w4 ⟨rfl,h4,hk4⟩;have zV:=hid (lJ.out.trans hk4);have HX4:=hid (hk4.2 _ _ _ CE.out ai rq);have BS:=hid (hk4.2 _ _ _ lI.out ai dH);have HF:=hid (And.intro h4 zV.out);clear h4 hk4 vv zV;exact zS
 ):p:=h
end Go
