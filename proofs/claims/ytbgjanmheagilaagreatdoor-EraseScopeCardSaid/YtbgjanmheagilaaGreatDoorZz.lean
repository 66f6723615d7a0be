/- A part of the proof. Conditions: none. -/
import Derived.Tactics2
import Derived.TacticsIn
import Derived.OwnWalkIn
import Derived.KernelRfl
import Derived.IntWalk
import Derived.BigQuiet
import Derived.LoopTactic
import Derived.RegionTactic
import Derived.Deep.QuietTactic
import Derived.Maps.OwnSet
import Derived.StillTailTactics
import Derived.Deep.RegionHeld3
import Derived.LoopIn
import Derived.TacticsInMore
import Derived.LoopNIn
set_option linter.unusedVariables false
set_option linter.unusedSimpArgs false
set_option maxRecDepth 100000
set_option maxHeartbeats 8000000
namespace Go
variable {p:Prop}
theorem acd (h:p:=by
 have Cv:eE ns s n fn=lC (bt {s0 with many:=s0.many.set fn (m+1)} n 2) n fn:=by
  rw [Lj,ec,if_pos Qq,eb]
 clear eb ec Lj;go_wp2_with (go_at_call 61;refine(uI H3x.out _ _).mono ?_);intro e w3 hh
 first|(subst hh;intro PN)|(obtain⟨rfl,PN⟩:=hh)
 have Sk:=Ln.out.trans PN;obtain⟨u0,u1,u2,u3,u4,u5,h3⟩:=Sk.wH;obtain⟨t,ht⟩:∃t:Fs,t=bt {s0 with many:=s0.many.set fn (m+1)} n 2:=⟨_,rfl⟩;rw [←ht] at h3 Sk;obtain⟨z1,z2,_,_,z5,_⟩:=dK {s0 with many:=s0.many.set fn (m+1)} n 2;rw [←ht] at z1 z2 z5;have ht1:t.uses.length=ns.length:=by rw [z2];exact X2
 have ht2:t.vars.length≤100000:=by rw [z1];exact X3
 have ht3:t.seen.length≤100000:=by rw [z5];exact X4
 have jT:Hid (eE ns s n fn={t with uses:=t.uses.set n (t.vars.length:Int),seen:=t.seen++[(t.vars.length:Int)],vars:=t.vars++[⟨n,fn,false,false⟩]}):=hid (by rw [Cv,←ht];unfold lC;rw [Int.toNat_natCast]);clear Cv ht z1 z2 z5 PN Ln H3x;go_wp2;obtain⟨g1,cu,rfl,hg1,cu1,fu1,ac2,ac3⟩:=ints_at (h3.rows.rows 0 _ _ rfl rfl) (show n<t.uses.length by omega);have d1:=h3.cell 1;have d2:=h3.cell 2;simp only [List.getElem?_toArray,List.getElem?_cons_succ,List.getElem?_cons_zero] at d1 d2;have kj:¬FB=g1:=aa;have hF2:¬g1=FB:=aa;have Ga:(n:Int)<(t.uses.length:Int):=aa;obtain⟨av,cv,hv0⟩:∃av cv,u0=.slice av t.vars.length cv:=by
  exact VL
 subst hv0;have H3:=hid h3;have HP3:=hid Sk;clear h3 Sk;go_region;obtain⟨w4,hw4⟩:∃w4,w4=(w3.setCell ⟨g1,n,none⟩ (.int .i64 (t.vars.length:Int))).drew:=⟨_,rfl⟩;rw [←hw4];have ia:n<t.uses.length:=aa;have h4:bz FB p c ns.length w4 {t with uses:=t.uses.set n (t.vars.length:Int)} (.slice av t.vars.length cv) (.slice (some ⟨g1,0,none⟩) t.uses.length cu) u2 u3 u4 u5:=by rw [hw4];exact(H3.out.qg rfl ia _).later (Below.refl _ _).drew
 have YW:FP FB p c ns.length {t with uses:=t.uses.set n (t.vars.length:Int)} W w4:=HP3.out.trans (h4.fp (by rw [hw4];exact((Below.refl FB w3).setCell (p:=⟨g1,n,none⟩) (show FB≤g1 by omega) _).drew) (by rw [hw4];exact(iu _ (jO (H3.out.rows.rows 0 _ _ rfl rfl))).trans (bW (Below.refl _ _).drew)) (by rw [hw4];simp));have I6:{t with uses:=t.uses.set n (t.vars.length:Int)}.vars=t.vars∧{t with uses:=t.uses.set n (t.vars.length:Int)}.seen=t.seen:=⟨rfl,rfl⟩;obtain⟨y,hy⟩:∃y:Fs,y={t with uses:=t.uses.set n (t.vars.length:Int)}:=⟨_,rfl⟩;rw [←hy] at h4 YW I6;rw [←I6.1] at h4;rw [←I6.1] at ht2;rw [←I6.2] at ht3;have Hy:=hid hy;have HT9:=hid I6;clear I6;generalize (Value.slice (some ⟨g1,0,none⟩) t.uses.length cu)=u1 at*;generalize Sj:(Value.slice av y.vars.length cv)=q0 at*;have zL:FB≤w4.heap.size:=by have:=h4.lt;omega
 have Ew:∀ca,64<ca.tmps.size→pO FB p c ns.length y q0 u1 u2 u3 u4 u5 w4 (fun _=>false) ca w4.drew:=fun _ jM=>⟨(Below.refl _ _).drew,bW (Below.refl _ _).drew,Nat.le_refl _,h4.heap,fun _=>h4.later (Below.refl _ _).drew,jM,fun h=>nomatch h⟩
 have H4:=hid h4;have HP4:=hid YW;clear h4 YW hw4 hy H3 HP3 d1 d2 cu1 fu1;go_wp2;refine wp_region_any ak ?_;refine Am.di _ 15 rfl ak ?_;simp only [List.take_succ_cons,List.take_zero];refine Am.di _ 14 rfl ak ?_;simp only [List.take_succ_cons,List.take_zero];refine Am.di _ 13 rfl ak ?_;simp only [List.take_succ_cons,List.take_zero];refine Am.ew (Φ:=Et FB q0 u4 (y.vars.length:Int)) (I:=pO FB p c ns.length y q0 u1 u2 u3 u4 u5 w4) (S:=sr) ak ak uH (fun z=>?_) qO ?_ ?_ _ (Ew _ (Nat.le_of_ble_eq_true rfl))
 ·exact ac6
 ·exact ac7
 ·have Sl:=trivial;exact ac8
 ):p:=h
theorem ac9 (h:p:=by
 exact ac7
 ):p:=h
theorem abM (h:p:=by
 have js:Hid (∀w,Calls Tryz.prog 74 #[.string s] w fun e w'=>e=.returned (lJ (dY s.data.toList))∧Below w.heap.size w w'):=hid (fun w=>lU s aa w);have HL:Hid (∀w',Below w.heap.size w w'→bu w'):=hid fun w' h=>hl.later h
 clear hl h0;cases ho:dY s.data.toList with
 |none=>
  rw [ho] at js;have dr:Hid (∀w,Calls Tryz.prog 74 #[.string s] w fun e w'=>e=.returned (.tuple #[.int .i64 0,.bool false])∧Below w.heap.size w w'):=js;have Hr:Hid (cV false s.data.toList=false):=hid (by unfold cV;rw [ho]);exact abL
 |some n=>
  have dr:Hid (∀w,Calls Tryz.prog 74 #[.string s] w fun e w'=>e=.returned (.tuple #[.int .i64 (wrap64 n),.bool true])∧Below w.heap.size w w'):=xo;have hr:cV false s.data.toList=(decide (Lib.itoa (wrap64 n)=s.data.toList) && !(false && decide (wrap64 n=0))):=by unfold cV;rw [ho]
  have z0:=jE (n:Int);have z1:=ig (n:Int);clear js ho;generalize wrap64 (n:Int)=z at*;obtain⟨S1,hS1⟩:∃S:ByteArray,S=⟨(Lib.itoa z).toArray⟩:=⟨_,rfl⟩;have H1:Hid (∀w,bu w→Calls Tryz.prog 75 #[.int .i64 z] w fun e w'=>e=.returned (.string S1)∧Below w.heap.size w w'):=hid KE;have e1:decide (Lib.itoa z=s.data.toList)=(S1.toList==s.toList):=by
   rw [ByteArray.toList_eq,ByteArray.toList_eq,hS1];exact(Bool.beq_eq_decide_eq _ _).symm
  have e2:decide (z=0)=(z==0):=(Bool.beq_eq_decide_eq _ _).symm;rw [e1,e2] at hr;have Hr:=hid hr;clear hr hS1 e1 e2 z0 z1;cases q1:(S1.toList==s.toList) with
  |false=>
   have q2:(S1.toList !=s.toList)=true:=by rw [bne,q1];rfl
   have tN:Hid (cV false s.data.toList=false):=hid (by rw [Hr.out,q1,Bool.false_and]);clear Hr;go_enter Tryz.func73,Tryz.ntmps73;go_wp2_with (first
    |(go_at_call 74;((with_reducible refine(dr.out _).mono ?_));rintro e w' ⟨rfl,hb⟩;obtain⟨g1,rfl⟩:=aA hb;clear hb)
    |(go_at_call 75;((with_reducible refine(H1.out _ ?_).mono ?_));rotate_left;rintro e w' ⟨rfl,hb⟩;obtain⟨g2,rfl⟩:=aA hb;clear hb))
   all_goals first
    |(go_ret2;exact⟨⟨_,by rw [tN.out];rfl⟩,cH⟩)
    |exact HL.out _ cH
  |true=>
   have q2:(S1.toList !=s.toList)=false:=by rw [bne,q1];rfl
   cases q3:(z==0) with
   |true=>
    exact ada
   |false=>
    exact ada
 ):p:=h
theorem abK (h:p:=by
 have Ha:=hid ha;have Hv:=hid hv;have eC:=dR (kids.getD 0 0) (by rw [List.getD,List.getElem?_eq_getElem cD];exact List.getElem_mem cD);obtain⟨n0,hz⟩:∃z:Nat,kids.getD 0 0=(z:Int):=⟨(kids.getD 0 0).toNat,by omega⟩;rcases hf with ix|⟨bk,ok,rfl,dz,dy⟩
 ·subst ix;simp at cD
 replace dy:=dy 0 cD;rw [show kids[0]=(n0:Int) by rw [←hz,List.getD,List.getElem?_eq_getElem cD];rfl,Nat.add_zero] at dy;rw [hz] at eC ⊢;have hN2:(N:Int)≤(ns.length:Int):=aa;have hL:(ns.length:Int)≤5000:=aa;obtain⟨L,zN⟩:∃L,L=ns.length:=⟨_,rfl⟩;unfold F2;simp only;obtain⟨q,hq⟩:∃q,q=kids.length:=⟨_,rfl⟩;rw [←hq] at cD ⊢;have q1:(0:Int)<(q:Int):=aa;rw [←zN] at hN2 hL ⊢;have HL:=hid zN;have AY:n0<N:=aa;clear ha hv zN dR hq hz UA cD eC;go_enter Tryz.func94,Tryz.ntmps94;go_wp2;go_loop [6] (fun nv=>∃k:Nat,nv=.int .i64 k∧k<N∧Hid (∃f,k<f∧pS ns f k=fO ns n0)) (fun nv=>(intOf nv).toNat)
 case atStart=>exact⟨n0,rfl,AY,n0+1,by omega,by unfold fO;rw [Int.toNat_natCast]⟩
 case round=>
  have Sm:=trivial;exact acA
 ):p:=h
theorem adb (h:p:=by
 exact ade
 ):p:=h
theorem abO (h:p:=by
 rw [if_neg (fun h=>hs (Option.some.inj h))] at rW rX;have hs1:(((f[pos+1]).toNat:Int)==42)=false:=by
  cases e:(((f[pos+1]).toNat:Int)==42) with
  |false=>rfl
  |true=>exact absurd (UInt8.toNat_inj.1 (by have:=eq_of_beq e;show(f[pos+1]).toNat=42;omega)) hs
 have UF:=hid rW;have KN:=hid rX;obtain⟨c9,hc9⟩:∃c9,(f[pos+1]).toNat=c9:=⟨_,rfl⟩;rw [hc9] at hs1;clear rW rX hs;exact adf
 ):p:=h
theorem abP (h:p:=by
 rw [dif_neg A4,if_neg ai] at rW rX;have A5:¬(pos:Int)+1<(f.size:Int):=aa;have UF:=hid rW;have KN:=hid rX;clear rW rX;exact adf
 ):p:=h
theorem Sb (h:p:=by
 intro kq o ca w1 ho hb aJ K hK;have hc2:w1.cell? ⟨W.heap.size+1,2,none⟩=some (.slice kp j aC):=(hb.cell (p:=⟨_,2,none⟩) ai).trans (by simp [go_sem]);have hc0:w1.cell? ⟨W.heap.size+1,0,none⟩=some (.int .i64 k):=(hb.cell (p:=⟨_,0,none⟩) ai).trans (by simp [go_sem]);have hcf:w1.cell? ⟨W.heap.size,k,none⟩=some (str fo):=(hb.cell (p:=⟨_,k,none⟩) aV).trans (by simp [go_sem,X8]);have agN:(0:Int)≤(k:Int):=aa;have hfn:∀f,ca.eval (.func f)=.func (.func f) #[] #[]:=fun _=>rfl
 have hcs:∀v,ca.eval (.const v)=v:=fun _=>rfl
 rcases kq with _|_|_|_|_|_|_|kq
 ·cases ho;have dw:=Am.lo 0 aJ rfl;exact adg
 ·exact VM
 ·cases ho;have dw:=Am.lk 56 1 aJ fun _=>rfl
  refine Am.rv rfl rfl (hK _ _ (Below.refl _ _) rfl) ?_;generalize ca.eval=ev at*;simp [go_sem,execOp,hfn,hcs,dw,hc2]
 ·exact VM
 ·cases ho;have dw:=Am.lk 58 3 aJ fun _=>rfl
  exact VN
 ·cases ho;have dw:=Am.lo 7 aJ rfl;have e2_:=Am.lk 59 4 aJ fun _=>rfl
  refine Am.rv rfl rfl (hK _ _ (Below.refl _ _) rfl) ?_;generalize ca.eval=ev at*;simp [go_sem,execOp,hfn,hcs,dw,e2_,YT,agN]
 ·cases ho;have dw:=Am.lk 60 5 aJ fun _=>rfl
  refine Am.rv rfl rfl (hK _ _ (Below.refl _ _) rfl) ?_;generalize ca.eval=ev at*;simp [go_sem,execOp,hfn,hcs,dw,hcf]
 ·simp at ho
 ):p:=h
theorem Sn (h:p:=by
 intro s hs kp nk kc aT w hl;show Calls _ _ _ _ fun e w'=>e=.returned (.bool (cr s.data.toList && decide (bn s.data.toList<0)))∧Below w.heap.size w w'
 have H1:Hid (∀w',Below w.heap.size w w'→Calls Tryz.prog 123 #[.string s] w' fun e w2=>e=.returned (.bool (cr s.data.toList))∧Below w'.heap.size w' w2):=hid fun w' h=>vA s aa w' (hl.later h)
 have H2:Hid (∀w',Below w.heap.size w w'→Calls Tryz.prog 124 #[.string s] w' fun e w2=>e=.returned (.int .i64 (bn s.data.toList))∧Below w'.heap.size w' w2):=hid fun w' h=>by
  have:=vB s w'
  rwa [ByteArray.toList_eq] at this
 clear hl;generalize cr s.data.toList=x at*;generalize bn s.data.toList=n at*;cases x
 all_goals
  go_enter Tryz.func93,Tryz.ntmps93;go_wp2_with (first
   |(go_at_call 123;((with_reducible refine(H1.out _ ?_).mono ?_));rotate_left;rintro e w' ⟨rfl,hb⟩;obtain⟨g1,rfl⟩:=aA hb;clear hb)
   |(go_at_call 124;((with_reducible refine(H2.out _ ?_).mono ?_));rotate_left;rintro e w' ⟨rfl,hb⟩;obtain⟨g1,rfl⟩:=aA hb;clear hb))
  all_goals first
   |(go_ret;exact⟨rfl,bP⟩)
   |exact by repeat (first|exact Below.refl _ _|refine bG ?_ _|refine bI ?_ _ _|refine bA ?_ _|refine bD ?_|refine bN ?_ _)
 ):p:=h
theorem Gz (h:p:=by
 intro s hs kp nk kc aT w hl;show Calls _ _ _ _ fun e w'=>e=.returned (.bool (cr s.data.toList && decide (bn s.data.toList<0)))∧Below w.heap.size w w'
 have H1:Hid (∀w',Below w.heap.size w w'→Calls Tryz.prog 70 #[.string s] w' fun e w2=>e=.returned (.bool (cr s.data.toList))∧Below w'.heap.size w' w2):=hid fun w' h=>xy s aa w'
 have H2:Hid (∀w',Below w.heap.size w w'→Calls Tryz.prog 71 #[.string s] w' fun e w2=>e=.returned (.int .i64 (bn s.data.toList))∧Below w'.heap.size w' w2):=hid fun w' h=>by
  have:=oH s w'
  rwa [ByteArray.toList_eq] at this
 clear hl;generalize cr s.data.toList=x at*;generalize bn s.data.toList=n at*;cases x
 all_goals
  go_enter Tryz.func43,Tryz.ntmps43;go_wp2_with (first
   |(go_at_call 70;((with_reducible refine(H1.out _ ?_).mono ?_));rotate_left;rintro e w' ⟨rfl,hb⟩;obtain⟨g1,rfl⟩:=aA hb;clear hb)
   |(go_at_call 71;((with_reducible refine(H2.out _ ?_).mono ?_));rotate_left;rintro e w' ⟨rfl,hb⟩;obtain⟨g1,rfl⟩:=aA hb;clear hb))
  all_goals first
   |(go_ret;exact⟨rfl,bP⟩)
   |exact by repeat (first|exact Below.refl _ _|refine bG ?_ _|refine bI ?_ _ _|refine bA ?_ _|refine bD ?_|refine bN ?_ _)
 ):p:=h
theorem VO (h:p:=by
 have w1:(i:Int)<(A.size:Int):=aa;have hpl:i<A.data.toList.length:=by rw [HAl.out];exact iY
 have hw:jV A.data.toList O.data.toList B.data.toList more i=A[i]:=by
  unfold jV;rw [if_pos hpl,List.getD,List.getElem?_eq_getElem hpl];exact B5
 have hl:(A[i]).toNat∈letters:=Ef.out _ (.inl (by
  have:A[i]=A.data.toList[i]:=iM;rw [this];exact List.getElem_mem hpl))
 rw [hw] at hd;obtain⟨cc,hcc⟩:∃cc,(A[i]).toNat=cc:=⟨_,rfl⟩;exact YX
 ):p:=h
theorem Vf (h:p:=by
 obtain⟨_,o,ho,hall⟩:=mem_ready.1 hn;rw [EH] at ho;cases ho;have hc2:fB (pre.push p).toList (fun i=>decide (i<pre.size) && l.getD i false):=fun j o e hj ho he hb=>by
  simp only [Bool.and_eq_true,decide_eq_true_eq] at hj;have Du:pre[j]?=some o:=by
   have:(pre.push p)[j]?=some o:=by rw [←ho];simp only [Array.getElem?_toList]
   rw [xR j hj.1] at this;exact this
  have h1:=(B4 j o Du).1 e he hb;simp only [Bool.and_eq_true,decide_eq_true_eq];exact⟨by omega,hc j o e hj.2 (by simpa using Du) he hb⟩
 have hS:∀e∈p.after,Region.binds .any e=true→(decide (e.on<pre.size) && l.getD e.on false)=true:=fun e he hb=>by
  have h1:=hp e he hb;have h2:=hall e he hb;rw [xQ l false e.on aa] at h2;simp [h1,h2]
 have hA:=kW i hi;have key:(decide (i<pre.size) && l.getD i false)=true:=by
  cases hA with
  |Np ho he hb=>
   have Du:=ho;rw [Array.getElem?_toList] at Du;rw [EH] at Du;cases Du;exact hS _ he hb
  |step ho he hb h2=>
   have Du:=ho;rw [Array.getElem?_toList] at Du;rw [EH] at Du;cases Du;exact h2.mem hc2 (hS _ he hb)
 simp only [Bool.and_eq_true,decide_eq_true_eq] at key;exact key.2
 ):p:=h
theorem UC (h:p:=by
 cases R with
 |true=>
  go_enter Tryz.func94,Tryz.ntmps94;go_wp2_with (first
   |(go_at_call 131;((with_reducible refine(Hun.out _ bP).mono ?_));rintro e w' ⟨rfl,hb⟩;obtain⟨g1,rfl⟩:=aA hb;clear hb)
   |(go_at_call 91;((with_reducible refine(cO _).mono ?_));rintro e w' ⟨rfl,hw⟩;rw [hw];clear hw w'))
  exact VP
 |false=>
  go_enter Tryz.func94,Tryz.ntmps94;go_wp2_with (first
   |(go_at_call 131;((with_reducible refine(Hun.out _ bP).mono ?_));rintro e w' ⟨rfl,hb⟩;obtain⟨g1,rfl⟩:=aA hb;clear hb)
   |(go_at_call 91;((with_reducible refine(gB _).mono ?_));rintro e w' ⟨rfl,hw⟩;rw [hw];clear hw w'))
  exact VQ
 ):p:=h
theorem VS (h:p:=by
 have e4:(0:Int)≤((i - A.size - more:Nat):Int):=aa;have e5:((i - A.size - more:Nat):Int)<(B.size:Int):=aa;have e6:(A.size:Int)≤(i:Int):=aa;have e7:(A.size:Int)+(more:Int)≤(i:Int):=aa;generalize i - A.size - more=bi at*;obtain⟨cc,hcc⟩:∃cc,(B[bi]).toNat=cc:=⟨_,rfl⟩;exact YX
 ):p:=h
theorem Uk (h:p:=by
 have h1:(s.toList==[45,57,50,50,51,51,55,50,48,51,54,56,53,52,55,55,53,56,48,56])=true:=by
  rw [ByteArray.toList_eq,h0];exact beq_self_eq_true nG
 have Hr:Hid (cI s.data.toList=true):=hid (by rw [Hm.out,if_pos h0]);clear Hm h0;go_enter Tryz.func128,Tryz.ntmps128;go_wp2_with (first
  |(go_at_call 162;((with_reducible refine(wZ.out _).mono ?_));rintro e w' ⟨rfl,rfl⟩)
  |(go_at_call 126;((with_reducible refine(dr.out _).mono ?_));rintro e w' ⟨rfl,hb⟩;obtain⟨g1,rfl⟩:=aA hb;clear hb)
  |(go_at_call 127;refine(jF _ aa aa _ (Hl.out.later cH)).mono ?_;rintro e w' ⟨rfl,hb⟩;obtain⟨g2,rfl⟩:=aA hb;clear hb))
 exact VT
 ):p:=h
theorem Nq (h:p:=by
 intro s hs kp nk kc aT w hl;show Calls _ _ _ _ fun e w'=>e=.returned (.bool (cr s.data.toList))∧Below w.heap.size w w'
 have H1:Hid (∀w',Below w.heap.size w w'→Calls Tryz.prog 123 #[.string s] w' fun e w2=>e=.returned (.bool (cr s.data.toList))∧Below w'.heap.size w' w2):=hid fun w' h=>vA s aa w' (hl.later h)
 clear hl;generalize cr s.data.toList=x at*;go_enter Tryz.func93,Tryz.ntmps93;go_wp2_with (first
  |(go_at_call 123;((with_reducible refine(H1.out _ ?_).mono ?_));rotate_left;rintro e w' ⟨rfl,hb⟩;obtain⟨g1,rfl⟩:=aA hb;clear hb))
 all_goals first
  |(go_ret;exact⟨rfl,bP⟩)
  |exact by repeat (first|exact Below.refl _ _|refine bG ?_ _|refine bI ?_ _ _|refine bA ?_ _|refine bD ?_|refine bN ?_ _)
 ):p:=h
theorem Nr (h:p:=by
 intro s hs kp nk kc aT w hl;show Calls _ _ _ _ fun e w'=>e=.returned (.bool (cr s.data.toList))∧Below w.heap.size w w'
 have H1:Hid (∀w',Below w.heap.size w w'→Calls Tryz.prog 70 #[.string s] w' fun e w2=>e=.returned (.bool (cr s.data.toList))∧Below w'.heap.size w' w2):=hid fun w' h=>xy s aa w'
 clear hl;generalize cr s.data.toList=x at*;go_enter Tryz.func43,Tryz.ntmps43;go_wp2_with (first
  |(go_at_call 70;((with_reducible refine(H1.out _ ?_).mono ?_));rotate_left;rintro e w' ⟨rfl,hb⟩;obtain⟨g1,rfl⟩:=aA hb;clear hb))
 all_goals first
  |(go_ret;exact⟨rfl,bP⟩)
  |exact by repeat (first|exact Below.refl _ _|refine bG ?_ _|refine bI ?_ _ _|refine bA ?_ _|refine bD ?_|refine bN ?_ _)
 ):p:=h
theorem VU (h:p:=by
 obtain⟨Dt,hF2,LX,wG⟩:=chain h3 jS iY kj hx2;have ha2:=ha1.mono hx2.keep;cases en with
 |ret v=>
  cases e2 with
  |panicked c=>exact hen.elim
  |outgrown=>exact hen.elim
  |returned v'=>
  obtain⟨a1,s3,h5,h6⟩:=ax h4;obtain⟨rfl,ha3⟩:=ha2.put hen h5;refine iD hX kn hc rest a1 _ e a' s' h6 E2 _ w2 _ Q ρ' ((hρ.mono hx1.keep).mono hx2.keep) qM Dt hF2 ha3 fun E' ce mH w' za Dp ha' tJ=>hQ E' ce mH w' (oK E' (LX E' za)) Dp ha' (by rw [wG,lD] at tJ;exact tJ)
 |panic v=>
  obtain⟨h5,rfl⟩:=pure_run h4;cases h5;cases e2 with
  |panicked c=>
   have nc:merge I s' (merge I s1 g)=merge I s' g:=lD;exact hQ E2 (.panic c) ca w2 (oK E2 hx2) hen ha2 (by rw [nc] at qM;exact qM)
  |returned v'=>exact hen.elim
  |outgrown=>exact hen.elim
 ):p:=h
theorem eV (h:p:=by
 intro s hs kp nk kc aT w hl;show Calls _ _ _ _ fun e w'=>e=.returned (.bool s.data.toList.isEmpty)∧Below w.heap.size w w'
 rw [←ByteArray.toList_eq];clear hl;cases h:s.toList.isEmpty
 ·have h2:(s.toList==[])=false:=by cases e:s.toList with
   |nil=>rw [e] at h;cases h
   |cons x l=>rfl
  exact VV
 ·have h2:(s.toList==[])=true:=by cases e:s.toList with
   |nil=>rfl
   |cons x l=>rw [e] at h;cases h
  exact VV
 ):p:=h
theorem eW (h:p:=by
 intro s hs kp nk kc aT w hl;show Calls _ _ _ _ fun e w'=>e=.returned (.bool s.data.toList.isEmpty)∧Below w.heap.size w w'
 rw [←ByteArray.toList_eq];clear hl;cases h:s.toList.isEmpty
 ·have h2:(s.toList==[])=false:=by cases e:s.toList with
   |nil=>rw [e] at h;cases h
   |cons x l=>rfl
  exact VW
 ·have h2:(s.toList==[])=true:=by cases e:s.toList with
   |nil=>rfl
   |cons x l=>rw [e] at h;cases h
  exact VW
 ):p:=h
theorem Vi (h:p:=by
 have hall:∀i,i<pre.size→l.getD i false=true:=by
  intro i
  induction i using Nat.strongRecOn with
  |_ i ihi=>
   intro hi;have hi':i<l.size:=aa;cases hv:l[i] with
   |true=>simp [Array.getD_eq_getD_getElem?,hi',hv]
   |false=>
    exfalso;have:i∈Region.ready .any pre l:=mem_ready.2 ⟨by simp [Array.getD_eq_getD_getElem?,hi',hv],pre[i],by simp [hi],fun e he hb=>by
     have hlt:=(B4 i pre[i] (by simp [hi])).1 e he hb;exact ihi e.on hlt aa⟩
    rw [←rdy l hl i hi,h] at this;cases this
 have:pre.size∈Region.ready .any (pre.push p) (l.push false):=mem_ready.2 ⟨by rw [←hl];exact acJ l,p,EH,fun e he hb=>by
  have:=hp e he hb;rw [xQ l false e.on aa];exact hall e.on this⟩
 rw [h] at this;cases this
 ):p:=h
theorem U4 (h:p:=by
 have hh:=decode_high s pos hlt aa;have JL:=decode_le s pos;have nx:=tF (P:=Tryz.prog) s pos (Utf8.decode s pos).1 (Utf8.decode s pos).2 hlt rfl;rw [if_pos (by have:=xI (b:=(s[pos]).toNat) aa;omega)] at hd;generalize (Utf8.decode s pos).1=b at*;generalize (Utf8.decode s pos).2=wd at*;have k1:=hh.1;have H:=hid hd;have Hm:=hid hm;clear hd hm hR hb hh;go_wp2_with (first
  |(go_at_call 161;refine(uK b aa aa _).mono ?_;rintro e w' ⟨rfl,hb⟩;obtain⟨g2,rfl⟩:=aA hb;clear hb))
 go_ret2;exact⟨by rw [H.out];rfl,cH⟩
 ):p:=h
theorem VX (h:p:=by
 have Ns:=trivial;exact VY
 ):p:=h
theorem Vl (h:p:=by
 have vC:∀k,(l.setIfInBounds i true).getD k false=(l.getD k false||decide (k=i)):=fun k=>by
  by_cases hk:k=i
  ·subst hk;simp [Array.getD_eq_getD_getElem?,lB]
  ·have Bc:¬i=k:=fun h=>hk h.symm
   simp [Array.getD_eq_getD_getElem?,Array.getElem?_setIfInBounds,hk,Bc]
 simp only at hj ⊢;rw [vC] at hj ⊢;rw [Bool.or_eq_true,decide_eq_true_eq] at hj;rcases hj with hj|hj
 ·have h5:l.getD e.on false=true:=hc j o' e hj Du he hb;rw [h5];rfl
 ·subst hj;have:pre[j]?=some o':=by simpa using Du
  rw [ho] at this;cases this;rw [Mh e he hb];rfl
 ):p:=h
theorem VZ (h:p:=by
 intro j p e hj hp he hbd;simp only at hj ⊢;by_cases e1:j=i
 ·subst e1;rw [ho] at hp;cases hp;have:=hall e he hbd;by_cases e2:e.on=j
  ·simp [e2,hi']
  ·have hne:¬j=e.on:=fun h=>e2 h.symm
   simpa [Array.getElem?_setIfInBounds,hne] using this
 ·have hne:¬i=j:=fun h=>e1 h.symm
  have hj':listed.getD j false=true:=Nt;have:=AQ j p e hj' hp he hbd;by_cases e2:e.on=i
  ·simp [e2,hi']
  ·have Bx:¬i=e.on:=fun h=>e2 h.symm
   simpa [Array.getElem?_setIfInBounds,Bx] using this
 ):p:=h
theorem Vk (h:p:=by
 apply Array.ext_getElem?;intro k;by_cases hk:k=i
 ·subst hk;have e1:¬k=l.size:=aa;have hR:((l.setIfInBounds k true).push false)[k]?=some true:=by
   rw [Array.getElem?_push,if_neg (by rw [Array.size_setIfInBounds];exact e1)];simp [lB]
  have hL:((l.push false).setIfInBounds k true)[k]?=some true:=by
   have h9:k<(l.push false).size:=by rw [Array.size_push];omega
   rw [Array.getElem?_setIfInBounds,if_pos rfl,if_pos h9]
  rw [hR,hL]
 ·have Bc:¬i=k:=fun h=>hk h.symm
  simp [Array.getElem?_setIfInBounds,Array.getElem?_push,Bc]
 ):p:=h
theorem V0 (h:p:=by
 have AZ:=YN.out m;rw [if_neg (by have:=I7.out;omega)] at AZ;have Sq:=hid AZ;clear AZ YN;by_cases PZ:u<0
 ·clear hu;exact V3
 ·have Ga:(k:Int)≤u:=by omega
  have hu2:0≤u:=aa;clear hu PZ;exact V3
 ):p:=h
theorem V4 (h:p:=by
 have Hb:=hid dy;clear dy pz;go_wp2_with (go_at_call 58;((with_reducible refine(MR.out _ (by repeat (first|exact Below.refl _ _|exact Gi.out|exact jn Gi.out aa|refine bG ?_ _|refine bI ?_ _ _|refine bA ?_ _|refine bD ?_|refine bN ?_ _))).mono ?_));rintro e w' ⟨rfl,hb⟩;obtain⟨g4,rfl⟩:=aA hb;clear hb);exact V5
 ):p:=h
theorem Nn (h:p:=by
 have Hc:=hid hc;have Bx:f.toList.isEmpty=false:=by cases e:f.toList with
  |nil=>rw [e] at hne;cases hne
  |cons x l=>rfl
 clear hc;go_enter Tryz.func92,Tryz.ntmps92;go_wp2_with (first
  |(go_at_call 91;((with_reducible refine(cO _).mono ?_));rintro e w' ⟨rfl,hw⟩;rw [hw];clear hw w')
  |(go_at_call 91;((with_reducible refine(gB _).mono ?_));rintro e w' ⟨rfl,hw⟩;rw [hw];clear hw w')
  |(go_at_call 121;refine(Hc.out _).mono ?_;rintro e w' ⟨rfl,hw⟩;rw [hw];clear hw w'))
 exact⟨rfl,rfl,Below.refl _ _⟩
 ):p:=h
theorem V6 (h:p:=by
 have Sr:=trivial;exact Ai
 ):p:=h
theorem V7 (h:p:=by
 have Ss:=trivial;exact Ai
 ):p:=h
theorem V8 (h:p:=by
 have Su:=trivial;exact Ai
 ):p:=h
theorem V9 (h:p:=by
 have Sv:=trivial;exact Ai
 ):p:=h
theorem Vh (h:p:=by
 apply List.eq_nil_iff_forall_not_mem.2;intro i hi;obtain⟨h1,o,ho,_⟩:=mem_ready.1 hi;have hlt:=(Array.getElem?_eq_some_iff.1 ho).1;simp at hlt;by_cases e:i=pre.size
 ·subst e;simp [Array.getD_eq_getD_getElem?,hl] at h1
 ·have h2:=hall i aa;have hi':i<l.size:=aa;have e':¬pre.size=i:=fun h=>e h.symm
  have e2:¬i=l.size:=aa;simp [Array.getD_eq_getD_getElem?,Array.getElem?_setIfInBounds,Array.getElem?_push,e',e2,hi'] at h1 h2;rw [h2] at h1;cases h1
 ):p:=h
theorem UG (h:p:=by
 obtain rfl:j=sp:=aa;have hJ2:=hJ.out;rw [show j - j=0 by omega,List.take_zero,List.all_nil] at hJ2;have YY:=UF.out;rw [←hJ2,Bool.true_and,List.drop_drop] at YY;have HRu:=hid YY;have a3:¬((j:Nat):Int)<((j:Nat):Int):=aa;clear hJ2 hJ YY;go_wp2;refine⟨⟨pos+1,aT+j,g2,by simp,rfl,by omega,by have:=KN.out;omega,HRu.out.symm,by have:=KN.out;omega⟩, ?_⟩;exact Gr
 ):p:=h
theorem Wa (h:p:=by
 rw [←hp] at Sw;obtain⟨fn,tmps,assign,body,hy,qM⟩:=Sw;dsimp only [yY] at hy;have HR2:=hid qM;clear hp YZ qM;gi_wp2_with ((try refine⟨hdd _, ?_⟩);refine HR2.out.mono ?_;clear HR2;rintro e W2 (⟨rfl,hJ2,hk2⟩|⟨rfl,hx2⟩))
 ·refine⟨⟨j+1,by omega,by go_num,hid ⟨hJ2,HKp.out _ _ _ _ HX0.out hk2 hI.out.2.1,hI.out.2.2.trans ((HKb.out _ _ hk2).mono (Nat.le_refl _))⟩⟩,by simp [intOf];omega⟩
 ·exact⟨rfl,_,results_none rfl _ _ _,⟨_,rfl⟩,.inr ⟨_,hx2⟩⟩
 ):p:=h
theorem GA (h:p:=by
 have Sx:=trivial;exact Ai
 ):p:=h
theorem Vx (h:p:=by
 have Hb:=hid dy;clear dy pz;go_wp2_with (go_at_call 45;((with_reducible refine(MR.out _ bP).mono ?_));rintro e w' ⟨rfl,hb⟩;obtain⟨g4,rfl⟩:=aA hb;clear hb);exact Wb
 ):p:=h
theorem U7 (h:p:=by
 intro i
 induction i using Nat.strongRecOn with
 |_ i ihi=>
  intro hi;have hi':i<listed.size:=aa;cases hv:listed[i] with
  |true=>simp [hi',hv]
  |false=>
   exfalso;have:i∈Region.ready .any ops.toArray listed:=mem_ready.2 ⟨by simp [hi',hv],ops[i],by simp [hi],fun e he hb=>by
    have hlt:=Gn i ops[i] e (by simp [hi]) he hb;exact ihi e.on hlt aa⟩
   rw [hnone] at this;cases this
 ):p:=h
theorem Wc (h:p:=by
 have Yo:(9:Int)<(dO b:Int):=aa;have hd:=H.out;rw [if_pos (.inl q1)] at hd;have H2:=hid hd;clear hd;go_wp2_with (first
  |(go_at_call 104;((with_reducible refine(gh b fP _).mono ?_));rintro e w' ⟨rfl,hb⟩;obtain⟨g2,rfl⟩:=aA hb;clear hb))
 go_ret2;exact⟨by rw [H2.out];rfl,yg⟩
 ):p:=h
theorem Wd (h:p:=by
 refine⟨fun r hr=>?_, ?_⟩
 ·rcases List.mem_cons.1 hr with rfl|hr
  ·rw [eJ];intro x hx;rcases List.mem_cons.1 hx with rfl|hx
   ·simp
   ·have:=jx x hx;have:¬(x.i<i):=aa;simp [this]
  ·rw [ih.1 r hr];have hlt:i<r.i:=by have:=jx r hr;omega
   simp only [cR,hlt,decide_true,Bool.true_and,hbase]
 ·rw [ih.2];simp only [cR,hbase]
 ):p:=h
theorem We (h:p:=by
 have hd:=hR.out;rw [List.drop_eq_nil_of_le (by rw [Dr.out];omega)] at hd;have Hd:=hid (show gi A.data.toList O.data.toList B.data.toList more ks 0=true from hd.symm);have i1:¬(i:Int)<(m:Int):=aa;clear hd hR;go_wp2;go_ret;exact⟨by rw [Hd.out];rfl,bP⟩
 ):p:=h
theorem Ur (h:p:=by
 rw [←wK];have h1:=Boxed.new (((Wm.alloc (.map #[] 0)).alloc (.cells #[.map (some Mb),.slice none 0 0] 53)).alloc (.cells #[.pointer (some ⟨Mb+1,0,none⟩)] 50)) 22 (.slice p L c);have h2:(((Wm.alloc (.map #[] 0)).alloc (.cells #[.map (some Mb),.slice none 0 0] 53)).alloc (.cells #[.pointer (some ⟨Mb+1,0,none⟩)] 50)).heap.size=Mb+3:=by simp [Dj]
 rw [h2] at h1;exact h1
 ):p:=h
theorem Ve (h:p:=by
 rw [mem_ready,mem_ready,xR i hi,xQ l true i aa];constructor
 ·rintro⟨h1,o,h2,h3⟩;refine⟨h1,o,h2,fun e he hb=>?_⟩;have:=(B4 i o h2).1 e he hb;rw [←xQ l false e.on aa];exact h3 e he hb
 ·rintro⟨h1,o,h2,h3⟩;refine⟨h1,o,h2,fun e he hb=>?_⟩;have:=(B4 i o h2).1 e he hb;rw [xQ l false e.on aa];exact h3 e he hb
 ):p:=h
theorem Wh (h:p:=by
 by_cases hlt:d<ca.tmps.size
 ·simp only [hlt,decide_true,cond_true];rw [Array.getElem?_eq_getElem hlt];have:ca.tmps.getD d undef=ca.tmps[d]:=by simp [hlt]
  rw [this] at hv;generalize a.val d=x at hv;generalize ca.tmps[d]=y at hv;cases hv<;>rfl
 ·simp only [hlt,decide_false,cond_false];rw [Array.getElem?_eq_none (Nat.le_of_not_lt hlt)]
 ):p:=h
theorem Wi (h:p:=by
 exact ac6
 ):p:=h
theorem UH (h:p:=by
 have nx:=ji (P:=Tryz.prog) f pos hlt;have zE:=hR.out.1;rw [List.drop_eq_nil_of_le (by rw [XH.out];omega)] at zE;have Hd2:=hid (show R=true from zE.symm);clear zE hR;go_wp2;go_end0;exact⟨by rw [Hd2.out];rfl,bP⟩
 ):p:=h
theorem Wj (h:p:=by
 intro w1 hown1 qK;have R2:=eO.grown qK eO.size (fun j hj=>by cases hj;exact Nat.le_refl _);have R3:=hid (hS.out.snoc t.data.toList (.lit (.int .i64 (wrap64 (c+1)))));rw [←Hst.out] at R3;clear qK hown e1 e2 eO hat hwc;go_wp2;go_roundw
 case rel=>exact⟨k+1,_,by omega,by go_num,hown1,R2,R3⟩
 case measure=>simp [intOf];omega
 ):p:=h
theorem UK (h:p:=by
 go_enter Tryz.func43,Tryz.ntmps43;go_wp2_with (go_at_call 74;((with_reducible refine(dr.out _).mono ?_));rintro e w' ⟨rfl,hb⟩;obtain⟨g1,rfl⟩:=aA hb;clear hb);exact Vp
 ):p:=h
theorem Un (h:p:=by
 refine⟨(Below.refl _ _).grown hg aa (fun k e=>by cases e;exact Nat.le_refl _),⟨fun b cs t _ _ hh=>?_,fun b o hb _ hh=>?_⟩⟩
 ·exact(hg.block b (Array.getElem?_eq_some_iff.1 hh).1 (fun e=>by cases e;rw [hh] at yU;cases yU)).trans hh
 ·exact(hg.block b (Array.getElem?_eq_some_iff.1 hh).1 (fun e=>by cases e;exact hb rfl)).trans hh
 ):p:=h
theorem Ut (h:p:=by
 go_wp2_with (at_mapUpdate;refine wpList_mapUpdate_own _ rfl _ _ _ 51 rfl 3 3 G1 Tryz.underlying51 _ Mb n D rfl HM.out.drew kT _ _ _ rfl rfl Us _ [] (plainElem_int Tryz.underlying3 hcw) ?_);intro W7 hM7 hg7;have cP:=hid (HX.out cv W7 Hv.out hg7 hM7);clear hM7 hg7;go_wp2;exact HE.out _ _ rfl cP.out.1 cP.out.2
 ):p:=h
theorem Wk (h:p:=by
 have hd:=H.out;rw [if_neg aa] at hd;refine⟨⟨pos+1,m*10+dO b,by simp, ?_,yg,by omega,by omega,hd.symm⟩,by simp [intOf];omega⟩;rw [show 10*(m:Int)+(dO b:Int)=((m*10+dO b:Nat):Int) by omega]
 ):p:=h
theorem Up (h:p:=by
 rw [←wK];have h1:=(Boxed.new ((Wm.alloc (.map #[] 0)).alloc (.cells #[.map (some Mb),.slice none 0 0] 53)) 50 (.pointer (some ⟨Mb+1,0,none⟩))).alloc (.cells #[.slice p L c] 22);have h2:((Wm.alloc (.map #[] 0)).alloc (.cells #[.map (some Mb),.slice none 0 0] 53)).heap.size=Mb+2:=by simp [Dj]
 rw [h2] at h1;exact h1
 ):p:=h
theorem UE (h:p:=by
 rw [if_pos hcs] at rW rX;have UF:=hid rW;have KN:=hid rX;rcases hcs with hcs|hcs
 all_goals
  rw [hcs] at nx;clear rW rX hR hnu hb hx nJ hdec sV hcs;go_wp2;refine⟨⟨pos+1,aT,g,rfl,rfl,by omega,hat,UF.out.symm,KN.out⟩, ?_⟩;rw [ic _ _ _ _ _ rfl,ic _ _ _ _ _ rfl];omega
 ):p:=h
theorem Vw (h:p:=by
 have Hb:=hid (hno (by simp [eA,hd]));exact Vu
 ):p:=h
theorem Wl (h:p:=by
 intro t hno;have Y0:o.dst≠some t:=hno i o ho;have:(ca.put o.dst v).tmps.getD t undef=ca.tmps.getD t undef:=by
  cases zE:o.dst with
  |none=>rfl
  |some d'=>
   have Bx:¬d'=t:=fun e=>Y0 (by rw [zE,e])
   simp [Act.put,Array.getElem?_setIfInBounds,Bx]
 rw [this];exact fM t hno
 ):p:=h
theorem U5 (h:p:=by
 have nx:=ji (P:=Tryz.prog) s pos hlt;have hd:=hR.out.2;rw [List.drop_eq_nil_of_le (by rw [Hl.out];omega)] at hd;have H:=hid hd;have Hm:=hid hR.out.1;clear hd hR;go_wp2;go_ret2;exact⟨by rw [←H.out];rfl,cH⟩
 ):p:=h
theorem Nc (h:p:=by
 go_enter Tryz.func57,Tryz.ntmps57;go_wp2_with (go_at_call 91;((with_reducible refine(gB _).mono ?_));rintro e w' ⟨rfl,hw⟩;rw [hw];clear hw w');refine⟨rfl,rC us Hr.out rfl ?_⟩
 repeat (first|exact Below.refl _ _|refine bG ?_ _|refine bI ?_ _ _|refine bA ?_ _|refine bD ?_|refine bN ?_ _)
 ):p:=h
theorem VA (h:p:=by
 intro e w8 hh
 first|(subst hh;intro lG)|(obtain⟨rfl,lG⟩:=hh)
 try rw [←hp] at lG
 have IX:=hid lG;clear lG;go_wp2;go_end0;refine⟨rfl, ?_⟩;have cP:=(Cj.out.later (aL W _) oY).trans Cn.out|>.trans IX.out
 rw [jT.out];exact GC
 ):p:=h
theorem VF (h:p:=by
 clear eI cX;exact VG
 ):p:=h
theorem Wn (h:p:=by
 have hx:=hR.out;rw [List.drop_eq_nil_of_le (by rw [Hln.out];omega)] at hx;have Hx:=hid hx.symm;have k1:¬(k:Int)<(s.size:Int):=aa;clear hx hR;go_wp2;go_ret;exact⟨by rw [Hx.out];rfl,cH⟩
 ):p:=h
theorem Wo (h:p:=by
 refine⟨?_,⟨h.rows.len,fun i v l a b=>ct (h.rows.rows i v l a b) _ aa,h.rows.apart⟩, ?_⟩
 ·rw [bY h.heap _ _];rfl
 ·refine h.vars.kept hg (.inr fun e=>?_);have:=(Lib.ownsRow_kind h.vars _ e);obtain⟨cc,fz,hh⟩:=this;rw [h.heap] at hh;simp at hh
 ):p:=h
theorem U6 (h:p:=by
 apply List.eq_nil_iff_forall_not_mem.2;intro i hi;obtain⟨h4,o,ho,_⟩:=mem_ready.1 hi;have hlt:i<ops.length:=by have:=(Array.getElem?_eq_some_iff.1 ho).1;simpa using this
 exact Wp
 ):p:=h
theorem Wq (h:p:=by
 subst e1;rw [ho] at hp;cases hp;have agQ:d<ca.tmps.size:=by
  have:=List.all_eq_true.1 acB o (List.mem_of_getElem? ho);simp only [qR,blt_eq] at this;rw [hs];simpa using this
 have:(ca.put o.dst v).tmps.getD d undef=v:=by simp [Act.put,qR,agQ]
 rw [this];exact hv
 ):p:=h
theorem U3 (h:p:=by
 have hd:=H.out;rw [if_pos (by
  rcases Nat.lt_or_ge (qP b) 17 with h|h
  ·have:=tI h;omega
  ·have:=Gk (b:=b) aa;omega)] at hd
 exact Ws
 ):p:=h
theorem Wt (h:p:=by
 have hd:=hR.out.2;rw [List.drop_eq_nil_of_le (by rw [Hl.out];omega)] at hd;have H:=hid hd;have Hm:=hid hR.out.1;have p2:¬((pos:Int)<(s.size:Int)):=aa;clear hd hR;go_wp2;go_ret2;exact⟨by rw [←H.out,show iO [] m=some m from rfl,I8 Hm.out];rfl,hB⟩
 ):p:=h
theorem Nu (h:p:=by
 have Hb:=hid (hno (by simp [eA,hd]));exact Wu
 ):p:=h
theorem Nv (h:p:=by
 have Hb:=hid (hno (by simp [eA]));exact Wu
 ):p:=h
theorem Wv (h:p:=by
 rcases Nat.lt_trichotomy j i with Dv|Dv|Dv
 ·rcases(tj j i p o hp ho Dv).2 with h|h
  ·exact Aj j h
  ·exact absurd ht ((Oper.apart_spec h).1 t qR)
 ·exact absurd ht (hown i j o p t ho hp aa qR)
 ·exact absurd ht (hown i j o p t ho hp aa qR)
 ):p:=h
theorem MW (h:p:=by
 intro e w9 hh
 first|(subst hh;intro nr)|(obtain⟨rfl,nr⟩:=hh)
 try rw [←hp] at nr
 have LA:=hid nr;clear nr;go_wp2;go_end0;refine⟨rfl, ?_⟩;have cP:=(Cj.out.later (aL W _) oY).trans LA.out;exact GC
 ):p:=h
theorem Vg (h:p:=by
 apply List.eq_nil_iff_forall_not_mem.2;intro i hi;obtain⟨h1,o,ho,_⟩:=mem_ready.1 hi;have hlt:=(Array.getElem?_eq_some_iff.1 ho).1;have:=hl i hlt;have hi':i<l.size:=aa;simp [Array.getD_eq_getD_getElem?,hi'] at this h1;rw [this] at h1;cases h1
 ):p:=h
theorem Ww (h:p:=by
 cases en with
 |panic u=>exact(aB h4).elim
 |ret u=>
  obtain⟨rfl,rfl⟩:=pure_run h4;cases e2 with
  |panicked c=>exact hen.elim
  |outgrown=>exact hen.elim
  |returned u'=>exact hK E2 u' w2 (oK E2 hx2) hen (by rw [lD] at qM;exact qM)
 ):p:=h
theorem LL (h:p:=by
 have hi':i<listed.size:=aa;cases hv:listed[i] with
 |true=>simp [hi',hv]
 |false=>
  have qG:false∈listed.toList:=by rw [List.mem_iff_getElem];exact⟨i,by simpa using hi',by simpa using hv⟩
  have:=List.count_pos_iff.2 qG;omega
 ):p:=h
theorem Vm (h:p:=by
 unfold Region.wanted;cases hg:o.guard with
 |none=>rfl
 |some jw=>
  obtain⟨j,b⟩:=jw;have hj:=(B4 i o ho).2 j b hg;simp only;have:yielded (pre.push p) a.tmps j=yielded pre a.tmps j:=by
   unfold yielded;rw [xR j hj]
  rw [this]
 ):p:=h
theorem VK (h:p:=by
 clear Hr;go_wp2_with (go_at_call 91;((with_reducible refine(gB _).mono ?_));rintro e w' ⟨rfl,hw⟩;rw [hw];clear hw w');exact⟨rfl,by rw [HR.out];rfl,cH⟩
 ):p:=h
theorem U2 (h:p:=by
 have e:=tI (b:=b) aa;have hd:=H.out;rw [if_neg aa] at hd;refine⟨⟨pos+1,m*10+qP b,_,by simp,rfl,by omega,by omega,by rw [←e];exact hd.symm⟩, ?_⟩;exact Gr
 ):p:=h
theorem Vs (h:p:=by
 have e:dY s.data.toList=iO s.data.toList 0:=by
  unfold dY;rw [if_neg,if_neg (fun h3=>by rw [h3] at hl;simp at hl;omega)];intro h3;rw [←gZ s 2 aa] at h3;rw [h3.2] at h2;cases h2
 rw [e];exact this
 ):p:=h
theorem Wy (h:p:=by
 clear yh;exact Wz
 ):p:=h
theorem UI (h:p:=by
 generalize lW ds=z at*;have XJ:=hid H8;clear hR hrow lH hdb F5 PJ hrow2 H8;exact WA
 ):p:=h
theorem Vj (h:p:=by
 intro l a w hl hc h;refine⟨fun hn=>(kJ l hl hn).elim,fun i hi=>?_⟩;rcases QF l hl i hi with hlt|rfl
 ·have:=(rdy l hl i hlt).1 hi;rw [h.1] at this;cases this
 ·exact fin 0 l a w hl (full l hl hc hi) h.2
 ):p:=h
theorem Vv (h:p:=by
 have Hb:=hid (hno (by simp [eA]));clear hno vh eA;exact WB
 ):p:=h
theorem VC (h:p:=by
 have qf:=hid mL;clear lG mL;go_wp2;go_end0;refine⟨rfl, ?_⟩;have cP:=(Cj.out.later (gb W _ nq) oY).trans Cn.out|>.trans IX.out
 rw [qf.out];exact GC
 ):p:=h
theorem WC (h:p:=by
 have h1:=(h.2 k).1 aa;have hne:(k:Int)≠(j:Int):=aa;refine⟨?_, ?_⟩
 ·rw [has_put_other (fun e=>hne (by cases e;rfl))];exact h1.1
 ·rw [vD hne,vE _ _ aa];exact h1.2
 ):p:=h
theorem Vo (h:p:=by
 go_wp2;go_ret;exact⟨by first|(rw [HD.out];rfl)|(rw [←List.map_dropLast,HD.out];rfl),bP⟩
 ):p:=h
theorem WD (h:p:=by
 exact V5
 ):p:=h
theorem WE (h:p:=by
 refine⟨_,hr,⟨by rw [hlen];simp;omega,fun a v j ha hv=>?_⟩,fun _ _ _ _=>by simp;omega,by simp⟩;rw [bO] at ha hv;split at ha
 ·rw [if_pos (by assumption)] at hv;exact h5 a v _ ha hv
 ·cases ha
 ):p:=h
theorem adi (h:p:=by
 refine h.kept (grownBy_putObj' _ D _) ?_;cases hv:v.ownBlock with
 |none=>exact .inl rfl
 |some g=>
  obtain⟨c,fz,hh⟩:=Lib.ownsRow_kind h g hv;exact .inr fun e=>by cases e;rw [hh] at hdf;cases hdf
 ):p:=h
theorem Nw (h:p:=by
 clear h0;exact GD
 ):p:=h
theorem Nx (h:p:=by
 clear h1;exact GD
 ):p:=h
theorem WG (h:p:=by
 clear h2;exact GD
 ):p:=h
theorem Uy (h:p:=by
 refine au.val ⟨_,fun w=>?_,.ptr hk⟩;simp only [Instr.indexAt,Sem.run_bind,run_underlying hu,Result.andThen_ok,asIntOf,Sem.run_pure,hb,and_self,if_true,sizeOf,typeInfo,run_program,iq,dH]
 ):p:=h
theorem U0 (h:p:=by
 have e:=tI (b:=b) aa;have hd:=H.out;rw [if_pos aa] at hd;exact Ws
 ):p:=h
theorem jo (h:p:=by
 exact GD
 ):p:=h
theorem UZ (h:p:=by
 have hg2:=fU W1 FB 5 v';exact WH
 ):p:=h
theorem UN (h:p:=by
 have hf:=hv.fits;have hl:(aO ns x.kids).length=x.kids.length:=by simp [aO]
 rw [h2,←hl];rw [h1] at hk;rw [hk] at hf;have:=gF hf ay;exact Nat.le_trans ay this
 ):p:=h
theorem VB (h:p:=by
 rw [if_neg nT];rw [if_neg nT];exact WI
 ):p:=h
theorem Vn (h:p:=by
 rw [←heq] at key;have G4:(Array.replicate ops.pop.size false).push false=Array.replicate ops.size false:=by
  rw [hsz];exact Array.replicate_succ.symm
 rw [G4,←hsz] at key;exact key
 ):p:=h
theorem Uq (h:p:=by
 rw [←wK,←Dj];have h1:(Wm.alloc (.map #[] 0)).heap.size=Wm.heap.size+1:=ai;rw [Below.heap_alloc _ _ _ ai,Below.heap_alloc _ _ _ ai,←h1];exact heap_alloc_new _ _
 ):p:=h
theorem xE (h:p:=by
 cases ho;have dw:=Am.lo 0 aJ rfl;exact WJ
 ):p:=h
theorem Ny (h:p:=by
 have hd:=H.out;rw [if_pos aa] at hd;go_ret2;exact⟨by rw [hd];rfl,yg⟩
 ):p:=h
theorem KP (h:p:=by
 clear hR hrow lH hdb F5 PJ hrow2 H8 hd0 e;exact WA
 ):p:=h
theorem Nz (h:p:=by
 go_wp2;go_ret;exact⟨by rw [←Bool.beq_eq_decide_eq];rfl,bP⟩
 ):p:=h
theorem KG (h:p:=by
 rcases hx with h|h|h
 ·have:letters.all (fun c=>decide (c<128))=true:=by decide
  exact of_decide_eq_true (List.all_eq_true.1 this _ h)
 ·rw [h];decide
 ·rw [h];decide
 ):p:=h
theorem EU (h:p:=by
 refine⟨rfl,rC aW VJ.out rfl ?_⟩
 repeat (first|exact Below.refl _ _|exact HX.out|refine bG ?_ _|refine bI ?_ _ _|refine bA ?_ _|refine bD ?_|refine bN ?_ _)
 ):p:=h
theorem Y1 (h:p:=by
 have h1:j<us.length:=by have:=HUL.out;omega
 rw [List.getD,List.getElem?_eq_getElem h1] at YZ;simp only [Option.getD_some] at YZ;simp [World.cell?,hI.out.2.1,h1,YZ]
 ):p:=h
theorem NA (h:p:=by
 cases hb:Nat.blt g lo.G with
 |true=>
  simp [zA,hb] at hv;subst hv;rw [blt_eq] at hb;exact .ptr (r:=0) (hold g (by simpa using hb))
 |false=>simp [zA,hb] at hv
 ):p:=h
theorem NC (h:p:=by
 go_enter Tryz.func30,Tryz.ntmps30;go_wp2;go_ret;exact⟨by simp [aq];omega,cH⟩
 ):p:=h
theorem JY (h:p:=by
 cases hv:v.ownBlock with
 |none=>exact .inl rfl
 |some g=>
  obtain⟨c,fz,hh⟩:=Lib.ownsRow_kind hO g hv;exact .inr fun e=>by cases e;rw [hh] at yU;cases yU
 ):p:=h
theorem ND (h:p:=by
 go_wp2_with (go_at_call 105;refine(Sy n h0 h1 _ hl).mono ?_;rintro e w' ⟨rfl,hb⟩;obtain⟨g,rfl⟩:=aA hb;clear hb);go_ret;exact⟨rfl,bG (Below.refl _ _) _⟩
 ):p:=h
theorem Mv (h:p:=by
 have e:dY s.data.toList=iO s.data.toList 0:=by
  unfold dY;rw [if_neg aa,if_neg (fun h3=>by rw [h3] at hl;simp at hl;omega)]
 rw [e];exact this
 ):p:=h
theorem EL (h:p:=by
 exact WB
 ):p:=h
theorem Mr (h:p:=by
 have j1:¬(j:Int)<(j:Int):=aa;clear hJ hR;go_wp2;go_roundw
 case rel=>exact⟨j+1,_,by go_num,by omega,rfl,HN⟩
 case measure=>simp [intOf];omega
 ):p:=h
theorem NF (h:p:=by
 go_wp2;go_ret;exact⟨by rw [HD.out];rfl,bP⟩
 ):p:=h
theorem KH (h:p:=by
 constructor
 ·rintro(h|h)
  ·exact .inl (UInt8.toNat_inj.1 h)
  ·exact .inr (UInt8.toNat_inj.1 h)
 ·rintro(h|h)<;>rw [h]
  ·exact .inl rfl
  ·exact .inr rfl
 ):p:=h
theorem Ms (h:p:=by
 rw [ByteArray.toList_eq];cases e:s.data.toList with
 |nil=>rfl
 |cons x l=>
  have:s.data.toList.length=s.size:=ai;rw [e] at this;simp at this;omega
 ):p:=h
theorem KX (h:p:=by
 clear DC hS;go_wp2_with (at_len;refine wpList_len_own _ rfl _ 147 rfl 9 3 Tryz.underlying147 _ w.heap.size k D rfl hown ?_);go_ret;exact⟨by rw [hres.out];rfl,eO⟩
 ):p:=h
theorem Ku (h:p:=by
 have h1:Nat.mod (2*j+1) 2=1:=by show(2*j+1) % 2=1;omega
 have h2:Nat.div (2*j+1) 2=j:=by show(2*j+1) / 2=j;omega
 rw [h1,h2];rfl
 ):p:=h
theorem Y2 (h:p:=by
 cases h with
 |Np ho2 he hb2=>rw [ho] at ho2;cases ho2;exact hall _ he hb2
 |step ho2 he hb2 h2=>rw [ho] at ho2;cases ho2;exact h2.mem AQ (hall _ he hb2)
 ):p:=h
theorem zW (h:p:=by
 exact Wb
 ):p:=h
theorem NG (h:p:=by
 have H9:=hid h9;clear h9;clear hno vh eA;go_wp2;go_roundw
 case rel=>exact⟨k+1,g9,by omega,by go_num,H9.out,Hy⟩
 case measure=>simp [intOf];omega
 ):p:=h
theorem MN (h:p:=by
 rw [Hck.out,if_neg];intro hr;unfold jA at hr;rw [List.all_eq_true] at hr;have:=hr k (List.mem_range.2 Bf);rw [←lF.out,←A0.out] at this;exact h this
 ):p:=h
theorem NH (h:p:=by
 clear Hr;rw [Sz.out];go_wp2;go_ret;exact⟨by rw [HR.out];rfl,cH⟩
 ):p:=h
theorem NI (h:p:=by
 cases Y0:o.dst with
 |none=>rfl
 |some d'=>
  have Bx:¬d'=d:=fun e=>hdd (by rw [Y0,e])
  simp [Act.put,Array.getElem?_setIfInBounds,Bx]
 ):p:=h
theorem Mq (h:p:=by
 clear hJ;go_wp2;go_quiet (fail);go_wp2;go_roundw
 case rel=>exact⟨j+1,_,by go_num,by omega,Eh _ _ _,Hne⟩
 case measure=>simp [intOf];omega
 ):p:=h
theorem ep (h:p:=by
 exact WJ
 ):p:=h
theorem MH (h:p:=by
 clear eI cX;exact Vt
 ):p:=h
theorem EW (h:p:=by
 exact Y3
 ):p:=h
theorem Ak (h:p:=by
 obtain⟨h3,rfl⟩:=pure_run h2;cases h3;cases ce<;>simp only [zT] at qB<;>first|exact qB.elim|skip
 exact hQ E1 _ nC w1 hx1 trivial ha1 nu
 ):p:=h
theorem Lc (h:p:=by
 cases ho;have dw:=Am.lo 7 aJ rfl;exact WK
 ):p:=h
theorem Mu (h:p:=by
 have e:dY s.data.toList=none:=by
  unfold dY;rw [if_neg aa,if_pos (List.eq_nil_of_length_eq_zero aa)]
 rw [e];exact this
 ):p:=h
theorem vF (h:p:=by
 obtain⟨h3,rfl⟩:=pure_run h2;cases h3;cases ce<;>simp only [zT] at qB<;>first|exact qB.elim|skip
 exact hQ E1 _ nC w1 hx1 qB ha1 nu
 ):p:=h
theorem Kt (h:p:=by
 have h1:Nat.mod (2*j) 2=0:=Nat.mul_mod_right 2 j;have h2:Nat.div (2*j) 2=j:=Nat.mul_div_cancel_left j ay;rw [h1,h2];rfl
 ):p:=h
theorem KB (h:p:=by
 exact VP
 ):p:=h
theorem NJ (h:p:=by
 have h3:=List.all_eq_true.1 h2 _ hm;simp only [Array.all_eq_true_iff_forall_mem] at h3;have h4:=h3 e he;rw [hb,blt_eq] at h4;simpa using h4
 ):p:=h
theorem KC (h:p:=by
 exact VQ
 ):p:=h
theorem Y4 (h:p:=by
 have h1:=I7.out;have h2:u.toNat<ds.length:=aa;rw [List.getD,List.getElem?_eq_getElem h2];exact Hdb.out _ (List.getElem_mem h2)
 ):p:=h
theorem L9 (h:p:=by
 intro n hg;cases n with
 |zero=>simp [eu] at hg
 |succ n=>rw [VR.L8 (E:=E) h1 hg fun a c j ha hc hga=>ih a c j ha hc n hga]
 ):p:=h
theorem NK (h:p:=by
 have:=List.drop_eq_getElem_cons hlt;rw [hd] at this;rw [List.getElem?_eq_getElem hlt];exact congrArg some (List.cons.inj this).1.symm
 ):p:=h
theorem KR (h:p:=by
 simp only [Bool.or_eq_true,decide_eq_true_eq] at t;have t:=List.all_eq_true.1 (t.resolve_left aa) c a;simp [b1,b2,e] at t
 ):p:=h
theorem Y5 (h:p:=by
 unfold jV;rw [HAl.out,if_neg iY,if_neg Dt,List.getD,List.getElem?_eq_getElem hpl];exact B5
 ):p:=h
theorem Mc (h:p:=by
 by_cases e:i=s.next
 ·subst e;exact .inr ⟨Nat.le_refl _,by omega⟩
 ·simp [Env.put,e] at hi;exact .inl (by simpa using hi)
 ):p:=h
theorem tM (h:p:=by
 exact VT
 ):p:=h
theorem NL (h:p:=by
 go_ret;exact⟨by rw [Hp.out];rfl,cH⟩
 ):p:=h
theorem NM (h:p:=by
 go_ret;exact⟨rfl,sY⟩
 ):p:=h
theorem LW (h:p:=by
 cases nx<;>simp only [NR] at qC<;>first|exact qC.elim|skip
 ·exact key _ qC
 ·subst qC;exact key _ (VR.undef E1)
 ):p:=h
theorem NN (h:p:=by
 rcases Nat.lt_or_gt_of_ne e1 with h|h
 ·exact(tj j i p o hp ho h).1 d qR Y0
 ·exact(tj i j o p ho hp h).1 d Y0 qR
 ):p:=h
theorem M0 (h:p:=by
 exact WI
 ):p:=h
theorem NP (h:p:=by
 rw [hb];clear h0 h1 h2 h3 h4 h5 h6 h7 h8 h9 hb;go_enter Tryz.func124,Tryz.ntmps124;exact uF
 ):p:=h
theorem Y6 (h:p:=by
 have:s.data.toList[0]'(by rw [dW];exact cD)=b:=by simp [hbt]
 rw [←this];simp [ByteArray.getElem_eq_getElem_data]
 ):p:=h
theorem NQ (h:p:=by
 have hne:(k:Int)≠(j:Int):=aa;rw [has_put_other (fun e=>hne (by cases e;rfl))];exact(h.2 k).2 aa
 ):p:=h
theorem NS (h:p:=by
 rw [hb];clear h0 h1 h2 h3 h4 h5 h6 h7 h8 h9 hb;go_enter Tryz.func71,Tryz.ntmps71;exact uF
 ):p:=h
theorem NT (h:p:=by
 cases hg:eu 3 u with
 |true=>simp [zA,hg] at hv;subst hv;exact bT E 3 u hg
 |false=>simp [zA,hg] at hv
 ):p:=h
theorem MP (h:p:=by
 clear hno vh eA;go_wp2;go_round
 case rel=>exact⟨k+1,by omega,by go_num,Hy⟩
 case measure=>simp [intOf];omega
 ):p:=h
theorem Y7 (h:p:=by
 have:=I7.out;rw [qh.out,List.getElem?_append_left aa,List.getD,List.getElem?_eq_getElem aa];rfl
 ):p:=h
theorem Nj (h:p:=by
 go_wp2;go_end0;exact Mt
 ):p:=h
theorem LD (h:p:=by
 go_wp2;go_ret;exact Mt
 ):p:=h
theorem DB (h:p:=by
 rw [ByteArray.toList_eq];cases e:s.data.toList==nG with
 |true=>exact absurd (eq_of_beq e) h0
 |false=>exact e
 ):p:=h
theorem ML (h:p:=by
 have h:=hR.out.2;rw [show ns.drop n=[] by rw [HL.out,List.drop_length]] at h;unfold aS;rw [←HL.out,←h];rfl
 ):p:=h
theorem EE (h:p:=by
 obtain⟨h3,rfl⟩:=pure_run h2;cases h3;cases ce<;>first|exact k2.elim|exact hQ E1 _ nC Vc w1 k1 k2 k3 k4 k5
 ):p:=h
theorem NU (h:p:=by
 go_roundw
 case rel=>exact⟨k+1,_,by go_num,rfl,by omega,hid Hp.out.symm⟩
 case measure=>simp [intOf];omega
 ):p:=h
theorem Lp (h:p:=by
 cases hv:v0.ownBlock with
 |none=>exact .inl rfl
 |some g=>exact .inr fun e=>qi hI h.vars g e.symm hv
 ):p:=h
theorem M9 (h:p:=by
 have e:((z1:Int)).toNat=z1:=rfl;have e2:((z0:Int)).toNat=z0:=rfl;rw [e] at mg;rw [e2] at MI;omega
 ):p:=h
theorem Y8 (h:p:=by
 cases hs2:listed.getD j false with
 |false=>rfl
 |true=>have:=h.mem AQ hs2;rw [WL] at this;cases this
 ):p:=h
theorem JX (h:p:=by
 exact(hg.block Pb (Array.getElem?_eq_some_iff.1 hP).1 (fun e=>by cases e;rw [hP] at yU;cases yU)).trans hP
 ):p:=h
theorem uM (h:p:=by
 rw [ByteArray.toList_eq];cases e:s.data.toList with
 |nil=>rw [e] at hl;simp at hl;omega
 |cons x l=>rfl
 ):p:=h
theorem MO (h:p:=by
 by_cases EX:m<k
 ·exact hK.out m EX
 ·obtain rfl:m=k:=by omega
  rw [←lF.out,←A0.out];exact h
 ):p:=h
theorem qN (h:p:=by
 exact WK
 ):p:=h
theorem L5 (h:p:=by
 cases ce<;>simp only [zT] at qB<;>first|exact qB.elim|skip
 exact leave .ret .returning trivial h2
 ):p:=h
theorem LZ (h:p:=by
 cases ce<;>first|exact k2.elim|exact⟨hdd,JR,rfl,_,IA hsz.2 _ _,E',_,rfl,k1,k4,k5⟩
 ):p:=h
theorem Y9 (h:p:=by
 exact VL
 ):p:=h
theorem MQ (h:p:=by
 unfold jA;rw [List.all_eq_true];intro m hm;exact hK.out m (by rw [HL.out];exact List.mem_range.1 hm)
 ):p:=h
theorem Za (h:p:=by
 cases h:s.data.toList with
 |nil=>rw [h] at dW;simp at dW;omega
 |cons b t=>exact⟨b,t,rfl⟩
 ):p:=h
theorem Mg (h:p:=by
 obtain⟨_,o,ho,_⟩:=mem_ready.1 hi;have:=(Array.getElem?_eq_some_iff.1 ho).1;simp at this;omega
 ):p:=h
theorem Ko (h:p:=by
 cases hx;exact au.val ⟨_,fun w=>by simp [Builtin.len_,ht,run_underlying hu,goInt],.int _ _⟩
 ):p:=h
theorem Kr (h:p:=by
 cases hx;exact au.val ⟨_,fun w=>by simp [Builtin.cap_,ht,run_underlying hu,goInt],.int _ _⟩
 ):p:=h
theorem Em (h:p:=by
 have:=gF fS ay;rw [oD] at this;exact Nat.lt_of_lt_of_le ay this
 ):p:=h
theorem NV (h:p:=by
 unfold jG rep;rw [ah hu,if_neg (by intro e;rw [e] at hp;cases hp),Int.toNat_natCast]
 ):p:=h
theorem KJ (h:p:=by
 rw [List.getElem?_eq_getElem (by rw [XH.out];exact h)];exact B5
 ):p:=h
theorem KL (h:p:=by
 cases e:(((f[pos]).toNat:Int)==42) with
 |false=>rfl
 |true=>have:=eq_of_beq e;omega
 ):p:=h
theorem KM (h:p:=by
 cases e:(((f[pos]).toNat:Int)==46) with
 |false=>rfl
 |true=>have:=eq_of_beq e;omega
 ):p:=h
theorem NW (h:p:=by
 obtain⟨n,h1,h2,h3⟩:=FW (d:=d) (ns:=ns) L m aa;exact⟨n,by omega,h2,h3⟩
 ):p:=h
theorem MC (h:p:=by
 cases e:(((m - F:Nat):Int)==0) with
 |false=>rfl
 |true=>have:=eq_of_beq e;omega
 ):p:=h
theorem NX (h:p:=by
 rw [hy];cases jW ops a j with
 |none=>rfl
 |some b=>cases b<;>cases want<;>rfl
 ):p:=h
theorem Mp (h:p:=by
 rw [List.getElem?_eq_getElem qA,←Hgj.out];simp [List.getD,List.getElem?_eq_getElem qA]
 ):p:=h
theorem Ey (h:p:=by
 rcases g2.2 with⟨e1,_⟩|⟨g,cap,cur,e1,_⟩
 ·exact⟨_,_,_,e1⟩
 ·exact⟨_,_,_,e1⟩
 ):p:=h
theorem KI (h:p:=by
 rcases hx with h|h|h
 ·exact h
 ·exact absurd (.inl h) hcs
 ·exact absurd (.inr h) hcs
 ):p:=h
theorem yT (h:p:=by
 rw [ByteArray.toList_eq,ByteArray.toList_eq,hS1];exact(Bool.beq_eq_decide_eq _ _).symm
 ):p:=h
theorem NY (h:p:=by
 rcases List.mem_append.1 hd with h|h
 ·have:=Hdb.out d h;omega
 ·simp at h;omega
 ):p:=h
theorem Ez (h:p:=by
 generalize ca.eval=ev at*;simp [execOp,resolve,invoke,builtin,dw,hb',hr]
 ):p:=h
theorem kM (h:p:=by
 go_enter Tryz.func124,Tryz.ntmps124;exact uF
 ):p:=h
theorem NZ (h:p:=by
 have h:=jX yj GF kp4 q4 GG Al w;rw [lA] at h;exact h
 ):p:=h
theorem kN (h:p:=by
 go_enter Tryz.func71,Tryz.ntmps71;exact uF
 ):p:=h
theorem Ex (h:p:=by
 exact GH
 ):p:=h
theorem uP (h:p:=by
 simp [Array.getElem?_replicate] at hj;split at hj<;>simp at hj
 ):p:=h
theorem N1 (h:p:=by
 have:=(Array.getElem?_eq_some_iff.1 ha).1;simpa using this
 ):p:=h
theorem Es (h:p:=by
 generalize ca.eval=ev at*;simp [go_sem,execOp,hfn,hcs]
 ):p:=h
theorem ry (h:p:=by
 exact GC
 ):p:=h
theorem zx (h:p:=by
 rw [toList_madeCells_one,List.map_replicate]
 ):p:=h
theorem zV (h:p:=by
 subst ix;have:=Hq.out;simp at this;omega
 ):p:=h
theorem uy (h:p:=by
 rw [List.drop_eq_getElem_cons hk];rfl
 ):p:=h
theorem ac7 (h:p:=by
 intro kq o ca w1 f ho hI XY hbh aJ K hK;have hc5:w1.cell? ⟨FB,5,none⟩=some u4:=xF;have hc1:w1.cell? ⟨FB,1,none⟩=some q0:=xF;have hfn:∀f,ca.eval (.func f)=.func (.func f) #[] #[]:=fun _=>rfl
 have hcs:∀v,ca.eval (.const v)=v:=fun _=>rfl
 rcases kq with _|_|_|_|_|_|_|_|_|_|_|_|_|kq
 ·exact Zb
 ·exact Zb
 ·cases ho;have dw:=Am.lk 53 1 aJ fun _=>rfl
  exact N2
 ·cases ho;have dw:=Am.lk 54 2 aJ fun _=>rfl
  exact N2
 ·cases ho;have dw:=Am.lk 55 3 aJ fun _=>rfl
  refine Am.rv rfl rfl (hK _ _ (hI.put ay ay) GI rfl) ?_;generalize ca.eval=ev at*;simp [go_sem,execOp,hfn,hcs,dw,hc5]
 ·exact Zb
 ·cases ho;have dw:=Am.lk 57 5 aJ fun _=>rfl
  exact N2
 ·cases ho;have dw:=Am.lk 58 6 aJ fun _=>rfl
  exact N2
 ·cases ho;have dw:=Am.lk 59 7 aJ fun _=>rfl
  exact N2
 ·cases ho;have dw:=Am.lk 60 8 aJ fun _=>rfl
  refine Am.rv rfl rfl (hK _ _ (hI.put ay ay) GI rfl) ?_;generalize ca.eval=ev at*;simp [go_sem,execOp,hfn,hcs,dw,hc1]
 ·cases ho;have dw:=Am.lk 61 9 aJ fun _=>rfl
  refine Am.rv rfl rfl (hK _ _ (hI.put ay ay) GI rfl) ?_;generalize ca.eval=ev at*;simp [go_sem,execOp,hfn,hcs,dw,←Sj]
 ·cases ho;have dw:=Am.lk 62 10 aJ fun _=>rfl
  refine Am.cq rfl rfl (Am.dx (v:=.slice (some ⟨w1.heap.size,0,none⟩) 1 1) (w':=w1.alloc (.cells #[.int .i64 (y.vars.length:Int)] 3)) ?_ (hK _ _ ((hI.alloc zL _).put (k:=11) ay ay) (by unfold sr;rw [if_neg ay];exact(Below.refl _ _).alloc (Nat.le_refl _) _) ⟨w1.heap.size,rfl,heap_alloc_new _ _⟩));exact GH
 ·cases ho;have dw:=Am.lk 56 4 aJ fun _=>rfl
  have h63:∃U:Nat,(ca.tmps.getD 63 undef)=.slice (some ⟨U,0,none⟩) 1 1∧w1.heap[U]?=some (.cells #[.int .i64 (y.vars.length:Int)] 3 (0,0)):=Am.kF (j:=11) aJ ak rfl rfl;obtain⟨U,e63,hU⟩:=h63;have Zc:=Am.jP e63;have hV:=hI.wH XY;have hI3:=hV.rows.rows 3 _ _ rfl rfl;obtain⟨iI,Ei,Ej,Ek,El⟩:=info_parts Tryz.uo;obtain⟨v',w',hr,g2,g3,g4⟩:=cY (P:=Tryz.prog) w1 (FB+1) 28 28 3 iI (.int .i64 0) 1 8 Tryz.underlying28 Ei Ej Ek El rfl ay u4 y.seen.length (y.seen.map (Value.int .i64)) hI3 ⟨U,0,none⟩ 1 1 ay [.int .i64 (y.vars.length:Int)] ai
   (fun j q hj=>by
    cases j with
    |zero=>simp at hj;subst hj;simp [Addr.add,World.cell?,hU]
    |succ j=>simp at hj) (fun q hq=>by simp at hq;subst hq;rfl) kT aa (by have:=hV.lt;omega)
  have Qu:Ints (FB+1) w' v' (y.seen++[(y.vars.length:Int)]):=Gg;refine Am.cq rfl rfl (Am.dx (v:=v') (w':=w') ?_ (hK _ _ (hI.appended g3 Qu g4 XY hI.len) (by unfold sr;rw [if_pos rfl];trivial) trivial));generalize ca.eval=ev at*;simp [execOp,resolve,invoke,builtin,dw,Zc,hr]
 ·simp at ho
 ):p:=h
theorem ade (h:p:=by
 subst jM;simp only [List.setIfInBounds_toArray,List.set_cons_succ,List.set_cons_zero];have wK:=hid hI;obtain⟨ao,WM,WN,rfl⟩:∃ao n' cap',q4'=.slice ao n' cap':=by
  rcases(m1.rows 3 _ _ rfl rfl).2 with⟨e1,_⟩|⟨g,cap,cur,e1,_⟩
  ·exact⟨_,_,_,e1⟩
  ·exact⟨_,_,_,e1⟩
 have M1:=hid m1;have M2:=hid m2;have c15:w5.cell? ⟨FB,1,none⟩=some q0:=xF;have c55:w5.cell? ⟨FB,5,none⟩=some u4:=xF;have f55:w5.frozen? ⟨FB,5,none⟩=false:=Gh;have hh5:=hid hI.heap;clear hI m1 m2 hd hs dB fM h52 hall adk;simp only [Am.jQ];go_wp2;simp only [Am.jQ];go_wp2;simp only [Am.jQ];have h6:bz FB p c ns.length (w5.setCell ⟨FB,5,none⟩ (.slice ao WM WN)) {y with seen:=y.seen++[(y.vars.length:Int)]} q0 u1 u2 u3 (.slice ao WM WN) u5:=bz.X0 hh5.out M1.out M2.out;have DO:FP FB p c ns.length {y with seen:=y.seen++[(y.vars.length:Int)]} W (w5.setCell ⟨FB,5,none⟩ (.slice ao WM WN)):=HP4.out.trans (h6.fp (wK.out.below.setCell (p:=⟨FB,5,none⟩) (Nat.le_refl _) _) (wK.out.keep.trans (cE 5 _)) (by simpa using wK.out.size));have H6:=hid h6;have HP6:=hid DO;have hs5:FB<w5.heap.size:=by have:=h6.lt;simpa using this
 obtain⟨iV,hiV,zV0,zV1,zV2⟩:=info_parts Tryz.XZ;clear h6 DO hh5 M1 M2 wK HP4 H4;go_wp2_with (at_builtin;go_loud (refine gS _ rfl _ _ 31 rfl (FB+1) 37 iV _ 4 24 Tryz.underlying31 hiV zV0 zV1 zV2 rfl ay q0 y.vars.length (cJ y.vars) rfl ?DT ⟨w5.heap.size,0,none⟩ 1 1 ay [.int .i64 n,.int .i64 fn,.bool false,.bool false] rfl rfl ?adl (by simp [Value.oneCell']) ?a63 ?Zd ?tW ?tX))
 case DT=>exact cC H6.out.vars (bA (Below.refl _ _) _)
 case adl=>exact World.news_of_block (cs:=#[.int .i64 (n:Int),.int .i64 (fn:Int),.bool false,.bool false]) (t:=37) (fr:=(0,0)) (by have:=heap_alloc_new (w5.setCell ⟨FB,5,none⟩ (.slice ao WM WN)) (.cells #[.int .i64 (n:Int),.int .i64 (fn:Int),.bool false,.bool false] 37);simpa using this)
 case a63=>unfold maxLen;omega
 case Zd=>omega
 case tW=>simp;omega
 case tX=>
  intro v' W1 k1 k2 k3;have XT:Below (w5.setCell ⟨FB,5,none⟩ (.slice ao WM WN)).heap.size (w5.setCell ⟨FB,5,none⟩ (.slice ao WM WN)) ((w5.setCell ⟨FB,5,none⟩ (.slice ao WM WN)).alloc (.cells #[.int .i64 (n:Int),.int .i64 (fn:Int),.bool false,.bool false] 37)):=(Below.refl _ _).alloc (Nat.le_refl _) _;have h7:=H6.out.later XT;have UD:cJ (y.vars++[⟨n,fn,false,false⟩])=cJ y.vars++[.int .i64 n,.int .i64 fn,.bool false,.bool false]:=EY _ _;have k1':W1.ownsRow (FB+1) 37 4 v' (y.vars++[⟨n,fn,false,false⟩]:List Vr).length (cJ (y.vars++[⟨n,fn,false,false⟩])):=by rw [UD,List.length_append];exact k1
  have hh:=h7.heap;have hne:=fA h7.vars h7.heap ay;have XU:W1.heap[FB]?=some (.cells #[.slice p ns.length c,q0,u1,u2,u3,.slice ao WM WN,u5,.int .i64 y.aT,.int .i64 y.e] 61 (0,0)):=by rw [k2.block FB h7.lt (fun e=>hne e.symm)];exact hh
  have h8:=h7.N3 k2 k1';have zI:∀k,q0.ownBlock=some k→FB≤k:=fun k hk=>by have:=(h7.vars.lt k hk).1;omega
  have hP8:FP FB p c ns.length {y with seen:=y.seen++[(y.vars.length:Int)],vars:=y.vars++[⟨n,fn,false,false⟩]} W (W1.setCell ⟨FB,1,none⟩ v'):=
   (HP6.out.later XT aV).trans (h8.fp (((Below.refl FB _).grown k2 (by have:=h7.lt;omega) zI).setCell (p:=⟨FB,1,none⟩) (Nat.le_refl _) _) ((zK h7.vars k2).trans (cE 1 _)) (by simpa using k2.size))
  have c1w:W1.cell? ⟨FB,1,none⟩=some q0:=by simp [World.cell?,XU]
  have f1w:W1.frozen? ⟨FB,1,none⟩=false:=by simp [World.frozen?,XU]
  obtain⟨vo,vn,vc,rfl⟩:∃vo vn vc,v'=.slice vo vn vc:=by
   exact UO
  have HP8:=hid hP8;clear hP8 h8 h7 hh XU k1 k1' k2 k3 XT UD hne zI;go_wp2;go_end0;refine⟨rfl, ?_⟩;have:=HP8.out;rw [jT.out];rw [Hy.out] at this;exact this
 ):p:=h
theorem adf (h:p:=by
 go_wp2;go_loopw [9,66] (fun av cv wr=>∃(j:Nat) (g2:eo),av=.int .i64 ((aT+j:Nat):Int)∧cv=.int .i64 j∧wr=grow (w.iter f (pos+1)) g2∧j≤1∧Hid ((((ks.drop aT).drop j).take (1 - j)).all (fun k=>iX k c1)=((ks.drop aT).take 1).all (fun k=>iX k c1))) (fun _ cv _=>1 - (intOf cv).toNat)
 case atStart=>exact⟨0,g,by simp,rfl,rfl,by omega,rfl⟩
 case round=>
  obtain⟨j,g2,rfl,rfl,rfl,hj,hJ⟩:=hrel;by_cases hjn:j<1
  ·have haj:aT+j<ks.length:=by rw [Dr.out];have:=KN.out;omega
   have hdj:((ks.drop aT).drop j).take (1 - j)=ks[aT+j]::((ks.drop aT).drop (j+1)).take (1 - (j+1)):=by
    rw [List.drop_drop,List.drop_eq_getElem_cons haj,show 1 - j=(1 - (j+1))+1 by omega,List.take_succ_cons,List.drop_drop];rfl
   have hJ2:=hJ.out;rw [hdj,List.all_cons] at hJ2;obtain⟨k0,JJ,b,o,bq,oq,kk,rfl,rfl,hb1,hb2,XI,Dn,P9⟩:=Hk.out (aT+j) ks[aT+j] (List.getElem?_eq_getElem haj);generalize ks[aT+j]=kd at*;have HJ:=hid hJ2;have a0:(0:Int)≤((aT+j:Nat):Int):=aa;have a1:((aT+j:Nat):Int)<(m:Int):=by have:=Dr.out;omega
   have a2:(kk:Int)<(n:Int):=aa;have a3:(j:Int)<(1:Int):=aa;exact abQ
  ·obtain rfl:j=1:=by omega
   have hJ2:=hJ.out;rw [show 1 - 1=0 by omega,List.take_zero,List.all_nil] at hJ2;have YY:=UF.out;rw [←hJ2,Bool.true_and,List.drop_drop] at YY;have HRu:=hid YY;have a3:¬((1:Nat):Int)<((1:Nat):Int):=aa;clear hJ2 hJ YY;go_wp2;refine⟨⟨pos+1,aT+1,g2,by simp,rfl,by omega,by have:=KN.out;omega,HRu.out.symm,by have:=KN.out;omega⟩, ?_⟩;exact Gr
 ):p:=h
theorem adm (h:p:=by
 have cD:=pX PS.fits aa;obtain⟨bk,ok,iW,dz,dy⟩:=cF hf cD;have eC:=PS.kids (x.kids.getD 0 0) (by rw [List.getD,List.getElem?_eq_getElem cD];exact List.getElem_mem cD);unfold pS at hr;rw [hka,if_pos hs,cX] at hr;obtain⟨z,hz⟩:∃z:Nat,x.kids.getD 0 0=(z:Int):=⟨(x.kids.getD 0 0).toNat,by omega⟩;rw [hz] at hr eC dy;rw [Nat.add_zero] at dy;obtain⟨q,hq⟩:∃q,q=x.kids.length:=⟨_,rfl⟩;rw [←hq] at c2 cD;rw [iW] at c2;have Hr:=hid hr;have q1:(0:Int)<(q:Int):=aa;clear hR hr hka cX PS hf iW hz hq hx;generalize x.kind=kx at*;rcases hs with rfl|rfl|rfl
 all_goals
  go_wp2;go_round
  case rel=>exact⟨z,rfl,by omega,f,by omega,Hr.out⟩
  case measure=>simp [intOf];omega
 ):p:=h
theorem YX (h:p:=by
 rw [hcc] at hl hd;have Hd:=hid hd;clear hd hw;cases hg:iX kd cc with
 |true=>
  go_wp2_with (go_at_call 69;((with_reducible refine(N4 kd cc k0 JJ hl _).mono ?_));rintro e w' ⟨rfl,hb⟩;obtain⟨g3,rfl⟩:=aA hb;clear hb;rw [hg]);exact⟨⟨i+1,_,by congr 1,rfl,by omega,by have:=Hd.out;rw [hg,Bool.true_and] at this;exact this.symm⟩,by simp [intOf];omega⟩
 |false=>
  go_wp2_with (go_at_call 69;((with_reducible refine(N4 kd cc k0 JJ hl _).mono ?_));rintro e w' ⟨rfl,hb⟩;obtain⟨g3,rfl⟩:=aA hb;clear hb;rw [hg]);go_ret;exact⟨by rw [Hd.out,hg];rfl,bP⟩
 ):p:=h
theorem ada (h:p:=by
 have tN:Hid (cV false s.data.toList=true):=hid (by rw [Hr.out,q1,q3];rfl);clear Hr;go_enter Tryz.func73,Tryz.ntmps73;go_wp2_with (first
  |(go_at_call 74;((with_reducible refine(dr.out _).mono ?_));rintro e w' ⟨rfl,hb⟩;obtain⟨g1,rfl⟩:=aA hb;clear hb)
  |(go_at_call 75;((with_reducible refine(H1.out _ ?_).mono ?_));rotate_left;rintro e w' ⟨rfl,hb⟩;obtain⟨g2,rfl⟩:=aA hb;clear hb))
 all_goals first
  |(go_ret2;exact⟨⟨_,by rw [tN.out];rfl⟩,cH⟩)
  |exact HL.out _ cH
 ):p:=h
theorem ac6 (h:p:=by
 by_cases hz:z=12
 ·subst hz;kernel_rfl
 ·have:uH z=fun _=>false:=by
   funext j;unfold uH;have hb:∀k,z≠k→Nat.beq z k=false:=fun k h=>by cases e:Nat.beq z k with|true=>exact absurd (Nat.eq_of_beq_eq_true e) h|false=>rfl
   rw [hb 12 hz];rfl
  rw [this];unfold Am.nt;exact List.all_eq_true.2 fun _ _=>rfl
 ):p:=h
theorem abL (h:p:=by
 clear js ho;go_enter Tryz.func73,Tryz.ntmps73;go_wp2_with (go_at_call 74;((with_reducible refine(dr.out _).mono ?_));rintro e w' ⟨rfl,hb⟩;obtain⟨g1,rfl⟩:=aA hb;clear hb);go_ret2;exact⟨⟨_,by rw [Hr.out];rfl⟩,cH⟩
 ):p:=h
theorem adn (h:p:=by
 go_wp2_with (go_at_call 91;((with_reducible refine(cO _).mono ?_));rintro e w' ⟨rfl,hw⟩;rw [hw];clear hw w');go_end0;exact⟨by rw [←Hr.out];rfl,bP⟩
 ):p:=h
theorem VG (h:p:=by
 go_wp2_with (go_at_call 91;((with_reducible refine(gB _).mono ?_));rintro e w' ⟨rfl,hw⟩;rw [hw];clear hw w');refine⟨rfl,rC aW Hb.out rfl ?_⟩
 repeat (first|exact Below.refl _ _|refine bG ?_ _|refine bI ?_ _ _|refine bA ?_ _|refine bD ?_|refine bN ?_ _)
 ):p:=h
theorem Vu (h:p:=by
 clear hno vh eA;go_wp2;go_ret2;exact⟨by rw [Hb.out];show _=Ending.returned (.tuple #[.int .i64 ((n:Int) - 1),.int .i64 60]);rw [Hlk.out];rfl,bP⟩
 ):p:=h
theorem Wu (h:p:=by
 clear hno vh eA;go_wp2;exact ado
 ):p:=h
theorem Wz (h:p:=by
 go_enter Tryz.func42,Tryz.ntmps42;go_wp2_with (first
  |(go_at_call 68;((with_reducible refine(Hsh.out _).mono ?_));rintro e w' ⟨rfl,hb⟩;obtain⟨g0,rfl⟩:=aA hb;clear hb))
 go_ret;exact⟨rfl,bG (Below.refl _ _) _⟩
 ):p:=h
theorem V5 (h:p:=by
 exact ado
 ):p:=h
theorem GD (h:p:=by
 go_enter Tryz.func43,Tryz.ntmps43;exact adp
 ):p:=h
theorem VV (h:p:=by
 go_enter Tryz.func93,Tryz.ntmps93;exact Y3
 ):p:=h
theorem VW (h:p:=by
 go_enter Tryz.func43,Tryz.ntmps43;exact Y3
 ):p:=h
theorem Vp (h:p:=by
 go_quiet (fail);exact adp
 ):p:=h
theorem V3 (h:p:=by
 go_wp2;go_roundw
 case rel=>exact⟨j+1,mM,_,by omega,by go_num,rfl,m,qh.out,G8,lD,by rw [←Sq.out];exact WO.out⟩
 case measure=>simp [intOf];omega
 ):p:=h
theorem WH (h:p:=by
 refine⟨by rw [bY h1 _ _];rfl,⟨h2.len,fun i v l a b=>ct (h2.rows i v l a b) _ aa,h2.apart⟩,h3.kept hg2 (.inr (fA h3 h1 ay))⟩
 ):p:=h
theorem WB (h:p:=by
 go_wp2;exact adq
 ):p:=h
theorem Wb (h:p:=by
 exact adq
 ):p:=h
theorem VM (h:p:=by
 cases ho;have dw:=Am.lo 8 aJ rfl;exact adg
 ):p:=h
theorem WJ (h:p:=by
 refine Am.rv rfl rfl (hK _ _ (hI.put ay ay) (fun _ _ _=>rfl) rfl) ?_;exact GH
 ):p:=h
theorem VP (h:p:=by
 go_end0;exact adr
 ):p:=h
theorem VQ (h:p:=by
 exact⟨rfl,rfl,bP⟩
 ):p:=h
theorem WA (h:p:=by
 go_wp2;go_ret;exact⟨by rw [XJ.out];rfl,cH⟩
 ):p:=h
theorem Vt (h:p:=by
 go_wp2;go_ret2;exact⟨by rw [Hb.out];rfl,cH⟩
 ):p:=h
theorem VT (h:p:=by
 go_ret;exact acY
 ):p:=h
theorem Ws (h:p:=by
 go_ret2;exact⟨by rw [hd];rfl,cH⟩
 ):p:=h
theorem WI (h:p:=by
 rw [if_neg nT];rw [if_neg nT];rw [if_neg nT];rw [if_pos bh]
 ):p:=h
theorem VN (h:p:=by
 refine Am.rv rfl rfl (hK _ _ (Below.refl _ _) rfl) ?_;generalize ca.eval=ev at*;simp [go_sem,execOp,hfn,hcs,dw,hc0]
 ):p:=h
theorem WK (h:p:=by
 refine Am.rv rfl rfl (hK _ _ rfl rfl rfl) ?_;exact GH
 ):p:=h
theorem Mt (h:p:=by
 exact⟨rfl,cH⟩
 ):p:=h
theorem VL (h:p:=by
 rcases h3.vars.2 with⟨e1,e2⟩|⟨g,cap,cur,e1,_⟩
 ·exact⟨none,0,by rw [e1,e2]⟩
 ·exact⟨_,_,e1⟩
 ):p:=h
theorem Wp (h:p:=by
 have:=hall i hlt;have hi':i<listed.size:=aa;simp [hi'] at this h4;rw [this] at h4;cases h4
 ):p:=h
theorem GC (h:p:=by
 first|exact cP|(rw [hp] at cP;exact cP)
 ):p:=h
theorem uF (h:p:=by
 go_wp2;go_ret;exact⟨rfl,Below.refl _ _⟩
 ):p:=h
theorem B5 (h:p:=by
 simp [ByteArray.getElem_eq_getElem_data]
 ):p:=h
theorem abQ (h:p:=by
 have a4:((aT+j:Nat):Int)≤20000:=aa;have a5:(0:Int)≤(kk:Int):=aa;clear hJ hJ2 hdj haj;generalize hA:aT+j=A at*;have HA:=hid hA;clear hA;cases hg:iX kd c1 with
 |true=>
  go_wp2_with (first
   |(go_at_call 122;((with_reducible refine(Cw kd c1 k0 JJ AQ _).mono ?_));rintro e w' ⟨rfl,hb⟩;obtain⟨g3,rfl⟩:=aA hb;clear hb;rw [hg])
   |(go_at_call 91;((with_reducible refine(cO _).mono ?_));rintro e w' ⟨rfl,hw⟩;rw [hw];clear hw w'))
  exact⟨⟨j+1,_,by congr 1;have:=HA.out;omega,by simp,rfl,by omega,by have:=HJ.out;rw [hg,Bool.true_and] at this;exact this⟩,by simp [intOf];omega⟩
 |false=>
  go_wp2_with (first
   |(go_at_call 122;((with_reducible refine(Cw kd c1 k0 JJ AQ _).mono ?_));rintro e w' ⟨rfl,hb⟩;obtain⟨g3,rfl⟩:=aA hb;clear hb;rw [hg])
   |(go_at_call 91;((with_reducible refine(gB _).mono ?_));rintro e w' ⟨rfl,hw⟩;rw [hw];clear hw w'))
  have hRf:R=false:=by
   have h1:=HJ.out;rw [hg,Bool.false_and] at h1;rw [UF.out,←h1,Bool.false_and]
  exact⟨rfl,by rw [hRf];rfl,bP⟩
 ):p:=h
theorem Zb (h:p:=by
 cases ho;have dw:=Am.lo 0 aJ rfl;exact ads
 ):p:=h
theorem ado (h:p:=by
 go_ret2;exact⟨by rw [Hb.out];rfl,by repeat (first|exact Below.refl _ _|exact Gi.out|exact jn Gi.out aa|refine bG ?_ _|refine bI ?_ _ _|refine bA ?_ _|refine bD ?_|refine bN ?_ _)⟩
 ):p:=h
theorem N2 (h:p:=by
 exact ads
 ):p:=h
theorem adp (h:p:=by
 go_wp2;go_ret;exact⟨by rw [Hr.out];rfl,bP⟩
 ):p:=h
theorem adq (h:p:=by
 go_ret2;exact⟨by rw [Hb.out];rfl,bP⟩
 ):p:=h
theorem Y3 (h:p:=by
 go_wp2;go_ret;exact adr
 ):p:=h
theorem acY (h:p:=by
 exact⟨by rw [Hr.out];rfl,cH⟩
 ):p:=h
theorem adg (h:p:=by
 refine Am.rv rfl rfl (hK _ _ (Below.refl _ _) rfl) ?_;generalize ca.eval=ev at*;simp [go_sem,execOp,hfn,hcs,dw]
 ):p:=h
theorem UO (h:p:=by
 rcases k1.2 with⟨e1,_⟩|⟨g,cap,cur,e1,_⟩
 ·exact⟨_,_,_,e1⟩
 ·exact⟨_,_,_,e1⟩
 ):p:=h
theorem Gr (h:p:=by
 rw [ic _ _ _ _ _ rfl,ic _ _ _ _ _ rfl];omega
 ):p:=h
theorem GH (h:p:=by
 generalize ca.eval=ev at*;simp [go_sem,execOp,hfn,hcs,dw]
 ):p:=h
theorem ads (h:p:=by
 refine Am.rv rfl rfl (hK _ _ (hI.put ay ay) GI rfl) ?_;generalize ca.eval=ev at*;simp [go_sem,execOp,hfn,hcs,dw]
 ):p:=h
theorem adr (h:p:=by
 exact⟨rfl,bP⟩
 ):p:=h
theorem Ze (h:p:=by
 refine Am.ew (Φ:=Et FB q0 u4 (y.vars.length:Int)) (I:=pO FB p c ns.length y q0 u1 u2 u3 u4 u5 w4) (S:=sr) ak ak uH (fun z=>?_) qO ?_ ?_ _ (Ew _ (Nat.le_of_ble_eq_true rfl))
 ·exact Wi
 ·exact ac9
 ·have SA:=trivial;exact ac8
 ):p:=h
theorem Zf (h:p:=by
 refine Am.ew (Φ:=Et FB q0 u4 (y.vars.length:Int)) (I:=pO FB p c ns.length y q0 u1 u2 u3 u4 u5 w4) (S:=sr) ak ak uH (fun z=>?_) qO ?_ ?_ _ (Ew _ (Nat.le_of_ble_eq_true rfl))
 ·exact Wi
 ·exact ac9
 ·have SB:=trivial;exact adt
 ):p:=h
theorem ace (h:p:=by
 have aiG:¬(200:Int)<m+1:=Qq;have Cv:eE ns s n fn=lC {s0 with many:=s0.many.set fn (m+1)} n fn:=by
  rw [Lj,ec,if_neg Qq,eb]
 clear eb ec Lj;go_wp2;have h3:=H3x.out;have Sk:=Ln.out;obtain⟨w3,hw3⟩:∃w3,w3=wk.setCell ⟨gm,fn,none⟩ (.int .i64 (m+1)):=⟨_,rfl⟩;rw [←hw3] at h3 Sk ⊢;obtain⟨t,ht⟩:∃t:Fs,t={s0 with many:=s0.many.set fn (m+1)}:=⟨_,rfl⟩;rw [←ht] at h3 Sk;have ht1:t.uses.length=ns.length:=by rw [ht];exact X2
 have ht2:t.vars.length≤100000:=by rw [ht];exact X3
 have ht3:t.seen.length≤100000:=by rw [ht];exact X4
 have jT:Hid (eE ns s n fn={t with uses:=t.uses.set n (t.vars.length:Int),seen:=t.seen++[(t.vars.length:Int)],vars:=t.vars++[⟨n,fn,false,false⟩]}):=hid (by rw [Cv,←ht];unfold lC;rw [Int.toNat_natCast]);generalize (Value.slice (some ⟨gm,0,none⟩) s0.many.length cm)=u5 at*;clear hw3 ht Cv Ln H3x;obtain⟨g1,cu,rfl,hg1,cu1,fu1,ac2,ac3⟩:=ints_at (h3.rows.rows 0 _ _ rfl rfl) (show n<t.uses.length by omega);have d1:=h3.cell 1;have d2:=h3.cell 2;simp only [List.getElem?_toArray,List.getElem?_cons_succ,List.getElem?_cons_zero] at d1 d2;have kj:¬FB=g1:=aa;have hF2:¬g1=FB:=aa;have Ga:(n:Int)<(t.uses.length:Int):=aa;obtain⟨av,cv,hv0⟩:∃av cv,u0=.slice av t.vars.length cv:=by
  exact Y9
 subst hv0;have H3:=hid h3;have HP3:=hid Sk;clear h3 Sk;go_region;obtain⟨w4,hw4⟩:∃w4,w4=(w3.setCell ⟨g1,n,none⟩ (.int .i64 (t.vars.length:Int))).drew:=⟨_,rfl⟩;rw [←hw4];have ia:n<t.uses.length:=aa;have h4:bz FB p c ns.length w4 {t with uses:=t.uses.set n (t.vars.length:Int)} (.slice av t.vars.length cv) (.slice (some ⟨g1,0,none⟩) t.uses.length cu) u2 u3 u4 u5:=by rw [hw4];exact(H3.out.qg rfl ia _).later (Below.refl _ _).drew
 have YW:FP FB p c ns.length {t with uses:=t.uses.set n (t.vars.length:Int)} W w4:=HP3.out.trans (h4.fp (by rw [hw4];exact((Below.refl FB w3).setCell (p:=⟨g1,n,none⟩) (show FB≤g1 by omega) _).drew) (by rw [hw4];exact(iu _ (jO (H3.out.rows.rows 0 _ _ rfl rfl))).trans (bW (Below.refl _ _).drew)) (by rw [hw4];simp));have I6:{t with uses:=t.uses.set n (t.vars.length:Int)}.vars=t.vars∧{t with uses:=t.uses.set n (t.vars.length:Int)}.seen=t.seen:=⟨rfl,rfl⟩;obtain⟨y,hy⟩:∃y:Fs,y={t with uses:=t.uses.set n (t.vars.length:Int)}:=⟨_,rfl⟩;rw [←hy] at h4 YW I6;rw [←I6.1] at h4;rw [←I6.1] at ht2;rw [←I6.2] at ht3;have Hy:=hid hy;have HT9:=hid I6;clear I6;generalize (Value.slice (some ⟨g1,0,none⟩) t.uses.length cu)=u1 at*;generalize Sj:(Value.slice av y.vars.length cv)=q0 at*;have zL:FB≤w4.heap.size:=by have:=h4.lt;omega
 have Ew:∀ca,64<ca.tmps.size→pO FB p c ns.length y q0 u1 u2 u3 u4 u5 w4 (fun _=>false) ca w4.drew:=fun _ jM=>⟨(Below.refl _ _).drew,bW (Below.refl _ _).drew,Nat.le_refl _,h4.heap,fun _=>h4.later (Below.refl _ _).drew,jM,fun h=>nomatch h⟩
 have H4:=hid h4;have HP4:=hid YW;clear h4 YW hw4 hy H3 HP3 d1 d2 cu1 fu1;go_wp2;refine wp_region_any ak ?_;refine Am.di _ 15 rfl ak ?_;simp only [List.take_succ_cons,List.take_zero];refine Am.di _ 14 rfl ak ?_;simp only [List.take_succ_cons,List.take_zero];refine Am.di _ 13 rfl ak ?_;simp only [List.take_succ_cons,List.take_zero]
 first
 |(have:=Qr;exact Ze)
 |(have:=Qs;exact Zf)
 ):p:=h
theorem Zg (h:p:=by
 go_roundw
 case rel=>exact⟨j+1,aW.set y false,_,by omega,by go_num,by simp [ia],by rw [List.map_set],hid (gj hI.out (fun h=>nomatch h))⟩
 case measure=>simp [intOf];omega
 ):p:=h
theorem Zh (h:p:=by
 go_roundw
 case rel=>exact⟨j+1,aW.set y true,_,by omega,by go_num,by simp [ia],by rw [List.map_set],hid (gj hI.out (fun _=>I9.out (by trivial)))⟩
 case measure=>simp [intOf];omega
 ):p:=h
theorem Zi (h:p:=by
 go_roundw
 case rel=>exact⟨j+1,aW.set z true,_,by omega,by go_num,by simp [ia],by rw [List.map_set],hid (gj hI.out (fun _=>I9.out (by trivial)))⟩
 case measure=>simp [intOf];omega
 ):p:=h
theorem Zj (h:p:=by
 go_roundw
 case rel=>exact⟨j+1,aW.set y false,_,by omega,by go_num,by simp [ia],by rw [List.map_set],hid (iC hI.out HTk.out dG aa HTX.out (.inr HRp.out) I9.out A0.out rfl)⟩
 case measure=>simp [intOf];omega
 ):p:=h
theorem Zk (h:p:=by
 go_roundw
 case rel=>exact⟨j+1,aW.set z false,_,by omega,by go_num,by simp [ia],by rw [List.map_set],hid (iC hI.out HTk.out dG aa HTX.out (.inr HRp.out) I9.out A0.out rfl)⟩
 case measure=>simp [intOf];omega
 ):p:=h
theorem Zl (h:p:=by
 go_roundw
 case rel=>exact⟨j+1,aW.set y true,_,by omega,by go_num,by simp [ia],by rw [List.map_set],hid (iC hI.out HTk.out dG aa HTX.out (.inr HRp.out) I9.out A0.out rfl)⟩
 case measure=>simp [intOf];omega
 ):p:=h
theorem Zm (h:p:=by
 go_roundw
 case rel=>exact⟨j+1,aW.set z true,_,by omega,by go_num,by simp [ia],by rw [List.map_set],hid (iC hI.out HTk.out dG aa HTX.out (.inr HRp.out) I9.out A0.out rfl)⟩
 case measure=>simp [intOf];omega
 ):p:=h
theorem Zn (h:p:=by
 go_roundw
 case rel=>exact⟨j+1,aW.set z false,_,by omega,by go_num,by simp [ia],by rw [List.map_set],hid (iC hI.out HTk.out dG aa HTX.out (.inl rfl) I9.out A0.out rfl)⟩
 case measure=>simp [intOf];omega
 ):p:=h
theorem Zo (h:p:=by
 go_roundw
 case rel=>exact⟨j+1,aW.set z false,_,by omega,by go_num,by simp [ia],by rw [List.map_set],hid (gj hI.out (fun h=>nomatch h))⟩
 case measure=>simp [intOf];omega
 ):p:=h
theorem Ai (h:p:=by
 go_wp2_with (first
  |(go_at_call 30;((with_reducible refine(Hx.out _).mono ?_);rintro e w' ⟨rfl,hb⟩;obtain⟨g3,rfl⟩:=aA hb;clear hb))
  |(go_at_call 30;((with_reducible refine(Hy.out _).mono ?_);rintro e w' ⟨rfl,hb⟩;obtain⟨g3,rfl⟩:=aA hb;clear hb)))
 first
 |(have:=SC;exact Zg)
 |(have:=SD;exact Zh)
 |(have:=SE;exact Zi)
 |(have:=SF;exact Zj)
 |(have:=Sr;exact Zk)
 |(have:=Ss;exact Zl)
 |(have:=Su;exact Zm)
 |(have:=Sv;exact Zn)
 |(have:=Sx;exact Zo)
 ):p:=h
theorem Zp (h:p:=by
 go_wp2_with (first
  |(go_at_call 92;((with_reducible refine(sB.out _ Ao).mono ?_));rintro e w' ⟨rfl,hb⟩;obtain⟨g2,rfl⟩:=aA hb;clear hb)
  )
 exact EU
 ):p:=h
theorem Zq (h:p:=by
 go_wp2_with (first
  |(go_at_call 92;((with_reducible refine(sB.out _ Ao).mono ?_));rintro e w' ⟨rfl,hb⟩;obtain⟨g2,rfl⟩:=aA hb;clear hb)
  |(go_at_call 93;((with_reducible refine(Ng.out _ Ao).mono ?_));rintro e w' ⟨rfl,hb⟩;obtain⟨g3,rfl⟩:=aA hb;clear hb)
  |(go_at_call 91;((with_reducible refine(gB _).mono ?_));rintro e w' ⟨rfl,hw⟩;rw [hw];clear hw w')
  )
 exact EU
 ):p:=h
theorem Zr (h:p:=by
 go_wp2_with (first
  |(go_at_call 92;((with_reducible refine(sB.out _ Ao).mono ?_));rintro e w' ⟨rfl,hb⟩;obtain⟨g2,rfl⟩:=aA hb;clear hb)
  |(go_at_call 93;((with_reducible refine(Ng.out _ Ao).mono ?_));rintro e w' ⟨rfl,hb⟩;obtain⟨g3,rfl⟩:=aA hb;clear hb)
  |(go_at_call 91;((with_reducible refine(cO _).mono ?_));rintro e w' ⟨rfl,hw⟩;rw [hw];clear hw w')
  |(go_at_call 94;((with_reducible refine(yc.out _ Ao).mono ?_));rintro e w' ⟨rfl,hb⟩;obtain⟨g4,rfl⟩:=aA hb;clear hb)
  )
 exact EU
 ):p:=h
theorem YU (h:p:=by
 have SG:=trivial;exact acX
 ):p:=h
theorem Zs (h:p:=by
 simp [results,Tryz.f12,go_sem]
 ):p:=h
theorem Zt (h:p:=by
 simp [results,Tryz.f10,go_sem]
 ):p:=h
theorem abC (h:p:=by
 rintro D ys W hD JU ⟨DA,hj⟩ hdf;refine hK _ _ ?_;obtain⟨⟨nI,lM⟩,DL,os,n,D',_,_,⟨⟨v,FT,hO⟩,_,P1,_,_⟩,hrel⟩:=hj;have SH:=(hrel fun i hi=>(JU.2 i hi).1).2;rw [JU.1] at SH;have c6:=lM.cell;have cP1:W.cell? ⟨Mb+1,1,none⟩=some v:=Ba;have Zu:=hid (show Below w.heap.size w (W.putObj D (.deferred none))∧(W.putObj D (.deferred none)).ownsRow Mb 30 4 v os.length (iF os)∧(∀x∈os,Ints Mb (W.putObj D (.deferred none)) (.slice x.kp x.kids.length x.aC) x.kids) from by
  have hrow:∀{e:TypeId} {size:Nat} {v:Value} {n:Nat} {xs:List Value},W.ownsRow Mb e size v n xs→(W.putObj D (.deferred none)).ownsRow Mb e size v n xs:=fun {e size v n xs} h=>by
   exact adi
  exact⟨DL.trans (belowK_b (w:=w) (Nat.le_refl _) _ D _ _ aa hdf rfl rfl),hrow hO,fun x hx=>hrow (P1 x hx)⟩)
 have Hos:=hid SH;have Hys:=hid JU;clear SH JU hO P1 hrel;gi_wp2;refine⟨by simp,.inl ⟨_,_,rfl,run_takeDeferred hdf, ?_⟩⟩;refine⟨.tuple #[v,.int .i64 0], ?_,Zu.out.1,_,_,rfl,Hn2.out.symm,.inr ⟨rfl,PF.out,Mb,os,by omega,by rw [HL.out];exact Hos.out,Zu.out.2.1,Zu.out.2.2⟩⟩
 first
 |(have:=P3;exact Zs)
 |(have:=SI;exact Zt)
 ):p:=h
theorem Zv (h:p:=by
 have JN:row[k]?=some 0:=by
  rw [Zw.out,List.getElem?_append_right (by rw [I7.out];exact Nat.le_refl _),I7.out,show n - k=(n - (k+1))+1 by omega,List.replicate_succ];simp
 go_wp2;go_loopw [24] (fun i w2=>∃(j:Nat) (mM:List Int) (g2:eo),j≤q∧i=.int .i64 j∧w2=grow (w.alloc (.cells (mM.map (Value.int .i64)).toArray 3)) g2∧
  Hid (∃m:Int,mM=ds++(m+1)::List.replicate (n - (k+1)) 0∧0≤m∧m≤k∧cQ ds (kids.drop j) m=cQ ds kids 0)) (fun i _=>q - (intOf i).toNat)
 case atStart=>
  refine⟨0,row.set k 1,_,by omega,rfl,by rw [List.map_set];exact uq _ _ _,0, ?_,by omega,by omega,rfl⟩;rw [Zw.out,List.set_append_right _ _ (by rw [I7.out];exact Nat.le_refl _),I7.out,show n - k=(n - (k+1))+1 by omega,List.replicate_succ];simp
 case round=>
  obtain⟨j,mM,g2,hj,rfl,rfl,hR⟩:=hrel;by_cases Uv:j<q
  ·have SJ:=trivial;exact adv
  ·obtain rfl:j=q:=by omega
   obtain⟨m,hrow2,G8,lD,EX⟩:=hR.out;have lH:=I7.out;have hr1:mM[k]?=some (m+1):=by rw [hrow2,List.getElem?_append_right aa];simp [lH]
   have qh:=hid hrow2;have WO:=hid EX;have EZ:=hid lH;clear hrow2 EX lH hR;go_wp2;have lH:=I7.out;have wG:m=cQ ds kids 0:=by
    have h:=WO.out;rw [Hq.out,List.drop_length] at h;exact h
   refine⟨⟨k+1,mM,g2,by omega,by go_num,rfl,ds++[m+1], ?_,by simp [lH],fun d hd=>?_, ?_⟩,by simp [intOf];omega⟩
   ·rw [qh.out];simp
   ·exact NY
   ·rw [wG,←Hdd.out,Hdp.out]
 ):p:=h
theorem Zx (h:p:=by
 go_wp2;go_loopw [22] (fun i w2=>∃(j:Nat) (mM:List Int) (g2:eo),j≤q∧i=.int .i64 j∧w2=grow (w.alloc (.cells (mM.map (Value.int .i64)).toArray 3)) g2∧
  Hid (∃m:Int,mM=ds++m::List.replicate (n - k) 0∧0≤m∧m≤k∧cQ ds (kids.drop j) m=cQ ds kids 0)) (fun i _=>q - (intOf i).toNat)
 case atStart=>
  refine⟨0,row,_,by omega,rfl,uq _ _ _,0, ?_,by omega,by omega,rfl⟩;rw [Zw.out,show n+1 - k=(n - k)+1 by omega,List.replicate_succ]
 case round=>
  obtain⟨j,mM,g2,hj,rfl,rfl,hR⟩:=hrel;by_cases Uv:j<q
  ·have SK:=trivial;exact adv
  ·obtain rfl:j=q:=by omega
   obtain⟨m,hrow2,G8,lD,EX⟩:=hR.out;have lH:=I7.out;have hr1:mM[k]?=some m:=by rw [hrow2,List.getElem?_append_right aa];simp [lH]
   have qh:=hid hrow2;have WO:=hid EX;have EZ:=hid lH;clear hrow2 EX lH hR;go_wp2;have lH:=I7.out;have wG:m=cQ ds kids 0:=by
    have h:=WO.out;rw [Hq.out,List.drop_length] at h;exact h
   refine⟨⟨k+1,mM.set k (m+1),g2,by omega,by go_num,by rw [List.map_set],ds++[m+1], ?_,by simp [lH],fun d hd=>?_, ?_⟩,by simp [intOf];omega⟩
   ·rw [qh.out,List.set_append_right _ _ aa,lH,show n+1 - (k+1)=n - k by omega];simp
   ·exact NY
   ·rw [wG,←Hdd.out,Hdp.out]
 ):p:=h
theorem abR (h:p:=by
 have h0:=Ha.out.2.2;rcases h0 with h0|⟨b,o,hp,hb,hc⟩
 ·subst h0;have:=Hn.out;simp at this;omega
 subst hp;have Zy:k<xs.length:=by have:=Hn.out;omega
 replace hc:=hc k Zy;have hf:=Ha.out.2.1 xs[k] (List.getElem_mem Zy);have hsm:=Hs.out.2 xs[k] (List.getElem_mem Zy);have hdd:=Cx xs k Zy;generalize xs[k]=x at*;obtain⟨kind,text,kp,aC,kids,place⟩:=x;simp only at hc hdd hsm;have c0:=hc.1;have c1:=hc.2.1;have c2:=hc.2.2.1;have c3:=hc.2.2.2;have JM:(0:Int)≤(k:Int):=aa;have tD:(k:Int)<(n:Int):=aa;have hk2:(k:Int)<(n:Int)+1:=aa;have X8:=hf.2.2.2.2.2;obtain⟨ds,hrow,lH,hdb,F5⟩:=hR.out;have Bf:=hsm.1;obtain⟨q,hq⟩:∃q,q=kids.length:=⟨_,rfl⟩;rw [←hq] at c2;have Dn:(q:Int)≤20000:=aa;have Hq:=hid hq;have Hx:=hid X8;have Hdd:=hid hdd;have Zw:=hid hrow;have I7:=hid lH;have Hdb:=hid hdb;have Hdp:=hid F5;clear hc hf hsm hR hdd X8 hrow lH hdb F5 Bf hq
 first
 |(have:=SL;exact Zv)
 |(have:=Qa;exact Zx)
 ):p:=h
theorem Zz (h:p:=by
 exact kM
 ):p:=h
theorem ZA (h:p:=by
 exact kN
 ):p:=h
theorem adw (h:p:=by
 have hb:bn s.toList=1:=kX;have e0:(s.toList==[119,114,105,116,101])=false:=kX;have e1:(s.toList==[107,101,121])=false:=kX;have e2:(s.toList==[114,101,115,117,109,101])=false:=kX;have e3:(s.toList==[114,101,97,100])=false:=kX;have e4:(s.toList==[112,99,97,108,108])=false:=kX;have e5:(s.toList==[101,114,114,111,114])=false:=kX;have e6:(s.toList==[116,121,112,101])=false:=kX;have e7:(s.toList==[99,114,101,97,116,101])=false:=kX;have e8:(s.toList==[121,105,101,108,100])=true:=kX;have e9:(s.toList==[115,116,97,116,117,115])=false:=kX;rw [hb];clear h0 h1 h2 h3 h4 h5 h6 h7 h8 hb
 first
 |(have:=SM;exact Zz)
 |(have:=SN;exact ZA)
 ):p:=h
theorem ZB (h:p:=by
 exact kM
 ):p:=h
theorem ZC (h:p:=by
 exact kN
 ):p:=h
theorem adx (h:p:=by
 have hb:bn s.toList=1:=kY;have e0:(s.toList==[119,114,105,116,101])=false:=kY;have e1:(s.toList==[107,101,121])=false:=kY;have e2:(s.toList==[114,101,115,117,109,101])=false:=kY;have e3:(s.toList==[114,101,97,100])=false:=kY;have e4:(s.toList==[112,99,97,108,108])=false:=kY;have e5:(s.toList==[101,114,114,111,114])=false:=kY;have e6:(s.toList==[116,121,112,101])=false:=kY;have e7:(s.toList==[99,114,101,97,116,101])=true:=kY;have e8:(s.toList==[121,105,101,108,100])=false:=kY;have e9:(s.toList==[115,116,97,116,117,115])=false:=kY;rw [hb];clear h0 h1 h2 h3 h4 h5 h6 h7 hb
 first
 |(have:=SP;exact ZB)
 |(have:=SQ;exact ZC)
 ):p:=h
theorem ZE (h:p:=by
 exact kM
 ):p:=h
theorem ZF (h:p:=by
 exact kN
 ):p:=h
theorem ady (h:p:=by
 have hb:bn s.toList=1:=kZ;have e0:(s.toList==[119,114,105,116,101])=false:=kZ;have e1:(s.toList==[107,101,121])=false:=kZ;have e2:(s.toList==[114,101,115,117,109,101])=false:=kZ;have e3:(s.toList==[114,101,97,100])=false:=kZ;have e4:(s.toList==[112,99,97,108,108])=false:=kZ;have e5:(s.toList==[101,114,114,111,114])=false:=kZ;have e6:(s.toList==[116,121,112,101])=true:=kZ;have e7:(s.toList==[99,114,101,97,116,101])=false:=kZ;have e8:(s.toList==[121,105,101,108,100])=false:=kZ;have e9:(s.toList==[115,116,97,116,117,115])=false:=kZ;rw [hb];clear h0 h1 h2 h3 h4 h5 h6 hb
 first
 |(have:=SR;exact ZE)
 |(have:=SS;exact ZF)
 ):p:=h
theorem ZG (h:p:=by
 exact kM
 ):p:=h
theorem ZH (h:p:=by
 exact kN
 ):p:=h
theorem adz (h:p:=by
 have hb:bn s.toList=1:=ld;have e0:(s.toList==[119,114,105,116,101])=false:=ld;have e1:(s.toList==[107,101,121])=false:=ld;have e2:(s.toList==[114,101,115,117,109,101])=false:=ld;have e3:(s.toList==[114,101,97,100])=false:=ld;have e4:(s.toList==[112,99,97,108,108])=false:=ld;have e5:(s.toList==[101,114,114,111,114])=true:=ld;have e6:(s.toList==[116,121,112,101])=false:=ld;have e7:(s.toList==[99,114,101,97,116,101])=false:=ld;have e8:(s.toList==[121,105,101,108,100])=false:=ld;have e9:(s.toList==[115,116,97,116,117,115])=false:=ld;rw [hb];clear h0 h1 h2 h3 h4 h5 hb
 first
 |(have:=SU;exact ZG)
 |(have:=SV;exact ZH)
 ):p:=h
theorem SX (h:p:=by
 exact kM
 ):p:=h
theorem SY (h:p:=by
 exact kN
 ):p:=h
theorem WQ (h:p:=by
 have hb:bn s.toList=1:=lf;have e0:(s.toList==[119,114,105,116,101])=false:=lf;have e1:(s.toList==[107,101,121])=false:=lf;have e2:(s.toList==[114,101,115,117,109,101])=false:=lf;have e3:(s.toList==[114,101,97,100])=false:=lf;have e4:(s.toList==[112,99,97,108,108])=true:=lf;have e5:(s.toList==[101,114,114,111,114])=false:=lf;have e6:(s.toList==[116,121,112,101])=false:=lf;have e7:(s.toList==[99,114,101,97,116,101])=false:=lf;have e8:(s.toList==[121,105,101,108,100])=false:=lf;have e9:(s.toList==[115,116,97,116,117,115])=false:=lf;rw [hb];clear h0 h1 h2 h3 h4 hb
 first
 |(have:=N5;exact SX)
 |(have:=N6;exact SY)
 ):p:=h
theorem SZ (h:p:=by
 exact kM
 ):p:=h
theorem S3 (h:p:=by
 exact kN
 ):p:=h
theorem WR (h:p:=by
 have hb:bn s.toList=1:=lg;have e0:(s.toList==[119,114,105,116,101])=false:=lg;have e1:(s.toList==[107,101,121])=false:=lg;have e2:(s.toList==[114,101,115,117,109,101])=false:=lg;have e3:(s.toList==[114,101,97,100])=true:=lg;have e4:(s.toList==[112,99,97,108,108])=false:=lg;have e5:(s.toList==[101,114,114,111,114])=false:=lg;have e6:(s.toList==[116,121,112,101])=false:=lg;have e7:(s.toList==[99,114,101,97,116,101])=false:=lg;have e8:(s.toList==[121,105,101,108,100])=false:=lg;have e9:(s.toList==[115,116,97,116,117,115])=false:=lg;rw [hb];clear h0 h1 h2 h3 hb
 first
 |(have:=N7;exact SZ)
 |(have:=N8;exact S3)
 ):p:=h
theorem S4 (h:p:=by
 exact kM
 ):p:=h
theorem S5 (h:p:=by
 exact kN
 ):p:=h
theorem WS (h:p:=by
 have hb:bn s.toList=2:=jY;have e0:(s.toList==[119,114,105,116,101])=false:=jY;have e1:(s.toList==[107,101,121])=false:=jY;have e2:(s.toList==[114,101,115,117,109,101])=true:=jY;have e3:(s.toList==[114,101,97,100])=false:=jY;have e4:(s.toList==[112,99,97,108,108])=false:=jY;have e5:(s.toList==[101,114,114,111,114])=false:=jY;have e6:(s.toList==[116,121,112,101])=false:=jY;have e7:(s.toList==[99,114,101,97,116,101])=false:=jY;have e8:(s.toList==[121,105,101,108,100])=false:=jY;have e9:(s.toList==[115,116,97,116,117,115])=false:=jY;rw [hb];clear h0 h1 h2 hb
 first
 |(have:=N9;exact S4)
 |(have:=Oa;exact S5)
 ):p:=h
theorem S6 (h:p:=by
 exact kM
 ):p:=h
theorem S7 (h:p:=by
 exact kN
 ):p:=h
theorem WT (h:p:=by
 have hb:bn s.toList=2:=jq;have e0:(s.toList==[119,114,105,116,101])=false:=jq;have e1:(s.toList==[107,101,121])=true:=jq;have e2:(s.toList==[114,101,115,117,109,101])=false:=jq;have e3:(s.toList==[114,101,97,100])=false:=jq;have e4:(s.toList==[112,99,97,108,108])=false:=jq;have e5:(s.toList==[101,114,114,111,114])=false:=jq;have e6:(s.toList==[116,121,112,101])=false:=jq;have e7:(s.toList==[99,114,101,97,116,101])=false:=jq;have e8:(s.toList==[121,105,101,108,100])=false:=jq;have e9:(s.toList==[115,116,97,116,117,115])=false:=jq;rw [hb];clear h0 h1 hb
 first
 |(have:=Ob;exact S6)
 |(have:=Oc;exact S7)
 ):p:=h
theorem S8 (h:p:=by
 exact kM
 ):p:=h
theorem S9 (h:p:=by
 exact kN
 ):p:=h
theorem WU (h:p:=by
 have hb:bn s.toList=2:=jr;have e0:(s.toList==[119,114,105,116,101])=true:=jr;have e1:(s.toList==[107,101,121])=false:=jr;have e2:(s.toList==[114,101,115,117,109,101])=false:=jr;have e3:(s.toList==[114,101,97,100])=false:=jr;have e4:(s.toList==[112,99,97,108,108])=false:=jr;have e5:(s.toList==[101,114,114,111,114])=false:=jr;have e6:(s.toList==[116,121,112,101])=false:=jr;have e7:(s.toList==[99,114,101,97,116,101])=false:=jr;have e8:(s.toList==[121,105,101,108,100])=false:=jr;have e9:(s.toList==[115,116,97,116,117,115])=false:=jr;rw [hb];clear h0 hb
 first
 |(have:=Od;exact S8)
 |(have:=Oe;exact S9)
 ):p:=h
theorem Ta (h:p:=by
 exact NP
 ):p:=h
theorem Tc (h:p:=by
 exact NS
 ):p:=h
theorem WV (h:p:=by
 have hb:bn s.toList=1:=lp;have e0:(s.toList==[119,114,105,116,101])=false:=lp;have e1:(s.toList==[107,101,121])=false:=lp;have e2:(s.toList==[114,101,115,117,109,101])=false:=lp;have e3:(s.toList==[114,101,97,100])=false:=lp;have e4:(s.toList==[112,99,97,108,108])=false:=lp;have e5:(s.toList==[101,114,114,111,114])=false:=lp;have e6:(s.toList==[116,121,112,101])=false:=lp;have e7:(s.toList==[99,114,101,97,116,101])=false:=lp;have e8:(s.toList==[121,105,101,108,100])=false:=lp;have e9:(s.toList==[115,116,97,116,117,115])=true:=lp
 first
 |(have:=Og;exact Ta)
 |(have:=Oh;exact Tc)
 ):p:=h
theorem Td (h:p:=by
 have e3b:(i:Int) - (A.size:Int)=((i - A.size - more:Nat):Int):=aa;exact VS
 ):p:=h
theorem Te (h:p:=by
 exact VS
 ):p:=h
theorem WW (h:p:=by
 have w2:¬(i:Int)<(A.size:Int)+(more:Int):=aa;have hAm:(A.size:Int)+(more:Int)≤20010:=aa;have hbi:i - A.size - more<B.size:=by have:=agS.out;omega
 have hpl:i - A.size - more<B.data.toList.length:=by rw [HBl.out];exact hbi
 have hw:jV A.data.toList O.data.toList B.data.toList more i=B[i - A.size - more]:=by
  exact Y5
 have hl:(B[i - A.size - more]).toNat∈letters:=Ef.out _ (.inr (.inr (by
  have:B[i - A.size - more]=B.data.toList[i - A.size - more]:=iM;rw [this];exact List.getElem_mem hpl)))
 rw [hw] at hd;have e3:(i:Int) - (A.size:Int) - (more:Int)=((i - A.size - more:Nat):Int):=aa
 first
 |(have:=Oi;exact Td)
 |(have:=Oj;exact Te)
 ):p:=h
theorem Tf (h:p:=by
 have HX0:Hid (w0.heap.size≤W.heap.size):=hid HB.out.size;have HSt:Hid (J [] X∧X.heap[W.heap.size]?=some (.cells (us.map Value.bool).toArray 4 (0,0))∧Below w0.heap.size w0 X):=hid ⟨hJX,hT,hBX⟩;clear hX hT hJX hBX Ll hlt hn;have hdd:∀k:Nat,(Fence.wide.depth.isSome=true→1≤k):=fun k h=>by cases h
 refine(wpIn_wide (n:=n)).1 ?_;gi_loopw [66] (fun iv wr=>∃j:Nat,j≤i∧iv=.int .i64 (j:Int)∧Hid (J (qj us j) wr∧wr.heap[W.heap.size]?=some (.cells (us.map Value.bool).toArray 4 (0,0))∧Below w0.heap.size w0 wr)) (fun iv _=>i - (intOf iv).toNat)
 case atStart=>exact⟨0,Nat.zero_le _,rfl,HSt⟩
 case round=>
  obtain⟨j,hj,rfl,hI⟩:=hrel;by_cases Dv:j<i
  ·have Tg:=trivial;exact adA
  ·obtain rfl:j=i:=by omega
   gi_wp2;go_end0;refine⟨⟨_,rfl⟩,.inl ⟨qj us j,⟨gM _ _,fun k hk=>?_⟩,hI.out.1⟩⟩;rw [Cy];exact⟨rfl,fun h=>hR.out k h⟩
 ):p:=h
theorem Th (h:p:=by
 have HEx:Hid (∀j,j<i→us.getD j false=dA ns j):=hid fun j hj=>by
  have h1:=hR.out j dG;rw [List.take_of_length_le (show ns.length≤i by have:=HL.out;omega)] at h1;exact h1
 have HX0:Hid (w0.heap.size≤W.heap.size):=hid HB.out.size;have HSt:Hid (J [] X∧X.heap[W.heap.size]?=some (.cells (us.map Value.bool).toArray 4 (0,0))∧Below w0.heap.size w0 X):=hid ⟨hJX,hT,hBX⟩;clear hX hT hJX hBX Ll hlt hn;have hdd:∀k:Nat,(Fence.wide.depth.isSome=true→1≤k):=fun k h=>by cases h
 refine(wpIn_wide (n:=n)).1 ?_;gi_loopw [66] (fun iv wr=>∃j:Nat,j≤i∧iv=.int .i64 (j:Int)∧Hid (J (qj us j) wr∧wr.heap[W.heap.size]?=some (.cells (us.map Value.bool).toArray 4 (0,0))∧Below w0.heap.size w0 wr)) (fun iv _=>i - (intOf iv).toNat)
 case atStart=>exact⟨0,Nat.zero_le _,rfl,HSt⟩
 case round=>
  obtain⟨j,hj,rfl,hI⟩:=hrel;by_cases Dv:j<i
  ·have Ti:=trivial;exact adA
  ·obtain rfl:j=i:=by omega
   gi_wp2;go_end0;refine⟨⟨_,rfl⟩,.inl ⟨qj us j,⟨gM _ _,fun k hk=>?_⟩,hI.out.1⟩⟩;rw [Cy];exact⟨rfl,HEx.out k (by simpa [gM] using hk)⟩
 ):p:=h
theorem WY (h:p:=by
 obtain rfl:i=L:=aa;go_wp2;have hX:Below W.heap.size W (grow (W.alloc (.cells (us.map Value.bool).toArray 4)) g):=Ok;have hT:(grow (W.alloc (.cells (us.map Value.bool).toArray 4)) g).heap[W.heap.size]?=some (.cells (us.map Value.bool).toArray 4 (0,0)):=by
  rw [dS _ _ _ ai];exact heap_alloc_new _ _
 have hJX:=HJ.out _ hX;have hBX:=HB.out.trans (hX.mono HB.out.size);generalize grow (W.alloc (.cells (us.map Value.bool).toArray 4)) g=X at*;have HUL:=hid Ll
 first
 |(have:=Ol;exact Tf)
 |(have:=Om;exact Th)
 ):p:=h
theorem Tj (h:p:=by
 go_wp2;go_ret;exact⟨by rw [←Hr.out];rfl,Below.refl _ _⟩
 ):p:=h
theorem Tk (h:p:=by
 by_cases ZI:kx=17
 ·subst ZI;exact adn
 ·have agU:=bK ZI;by_cases ZJ:kx=21
  ·subst ZJ;exact adn
  ·have agV:=bK ZJ;have hd:=hid (decide_eq_false (show ¬(kx=17∨kx=21) by omega));clear ZI ZJ;go_wp2_with (go_at_call 91;((with_reducible refine(gB _).mono ?_));rintro e w' ⟨rfl,hw⟩;rw [hw];clear hw w');exact⟨rfl,by rw [←Hr.out,hd.out];rfl,bP⟩
 ):p:=h
theorem WZ (h:p:=by
 unfold pS at hr;rw [hka,if_neg hs] at hr;have h18:(x.kind==18)=false:=by cases e:(x.kind==18) with
  |false=>rfl
  |true=>exact absurd (.inl (eq_of_beq e)) hs
 have h19:(x.kind==19)=false:=by cases e:(x.kind==19) with
  |false=>rfl
  |true=>exact absurd (.inr (.inl (eq_of_beq e))) hs
 have h20:(x.kind==20)=false:=by cases e:(x.kind==20) with
  |false=>rfl
  |true=>exact absurd (.inr (.inr (eq_of_beq e))) hs
 have Hr:=hid hr;clear hR hr hka cX PS hf hx hs;generalize x.kind=kx at*
 first
 |(have:=Oo;exact Tj)
 |(have:=Oq;exact Tk)
 ):p:=h
theorem Tl (h:p:=by
 rw [←hq] at c2 eM bL;have Hq:=hid hq;clear hq;go_enter Tryz.func44,Tryz.ntmps44;go_wp2;go_loopw [102] (fun iv wr=>∃(i:Nat) (g:eo),iv=.int .i64 i∧i≤q∧wr=grow (w.alloc (.cells #[Value.int IntKind.i64 32,Value.string x.text,Value.slice x.kp q x.aC,Value.int IntKind.i64 x.place] 30)) g∧Hid (((x.kids.take i).map (aQ ns)).Nodup)) (fun iv _=>q - (intOf iv).toNat)
 case atStart=>exact⟨0,_,rfl,by omega,(cW _).symm,by simp [Hid]⟩
 case round=>
  obtain⟨i,g,rfl,hi,rfl,hR⟩:=hrel;by_cases hiq:i<q
  ·have lB:i<x.kids.length:=by have:=Hq.out;omega
   obtain⟨bk,ok,iW,dz,dy⟩:=cF Hf.out lB;have jx:x.kids.getD i 0=x.kids[i]:=BQ;have eC:=qZ.out x.kids[i] (List.getElem_mem lB);rw [jx] at dy;obtain⟨z,hz⟩:∃z:Nat,x.kids[i]=(z:Int):=⟨(x.kids[i]).toNat,by omega⟩;rw [hz] at eC dy;have hzl:z<ns.length:=aa;obtain⟨b2,o2,zM,hb2,hx2,hf2,d0,d1,d2,d3⟩:=aY Ha.out hzl;cases zM;have hti:=fT hx2;have z0:(0:Int)≤(z:Int):=aa;have z1:(z:Int)<(L:Int):=dG;have i0:(0:Int)≤(i:Int):=aa;have i1:(i:Int)<(q:Int):=aa;have i2:(i:Int)≤(x.aC:Int):=aa;have jl:x.kids.take (i+1)=x.kids.take i++[(z:Int)]:=Gj;have Hti:=hid hti;have pQ:=hid jl;have X7:=hid iW;have Hbk:=hid dz;rw [iW] at c2 ⊢;clear hti jl iW jx hx2 hf2 hz lB d0 d2 d3;generalize ns[z].text=s1 at*;go_wp2;go_loopw [112] (fun jv wr=>∃(j:Nat) (g2:eo),jv=.int .i64 j∧j≤i∧wr=grow (w.alloc (.cells #[Value.int IntKind.i64 32,Value.string x.text,Value.slice (some ⟨bk,ok,none⟩) q x.aC,Value.int IntKind.i64 x.place] 30)) g2∧Hid (∀j':Nat,j'<j→aQ ns (x.kids.getD j' 0)≠s1.data.toList)) (fun jv _=>i - (intOf jv).toNat)
   case atStart=>exact⟨0,g,rfl,by omega,rfl,fun j' h=>by omega⟩
   case round=>
    obtain⟨j,g2,rfl,hj,rfl,hJ⟩:=hrel;by_cases Dv:j<i
    ·have qA:j<x.kids.length:=by have:=Hq.out;omega
     obtain⟨bk',ok',BS,Ir,hcj⟩:=cF Hf.out qA;have jx:x.kids.getD j 0=x.kids[j]:=Mo;have BU:=qZ.out x.kids[j] (List.getElem_mem qA);rw [X7.out] at BS;cases BS;rw [jx] at hcj;obtain⟨y,hy⟩:∃y:Nat,x.kids[j]=(y:Int):=⟨(x.kids[j]).toNat,by omega⟩;rw [hy] at BU hcj;have DA:y<ns.length:=aa;obtain⟨b3,o3,PN,hb3,hx3,hf3,f0,f1,f2,f3⟩:=aY Ha.out DA;cases PN;have htj:=fT hx3;have y0:(0:Int)≤(y:Int):=aa;have y1:(y:Int)<(L:Int):=dG;have j0:(0:Int)≤(j:Int):=aa;have j1:(j:Int)<(i:Int):=aa;have Htj:=hid htj;have Hgj:=hid (jx.trans hy);clear htj jx hx3 hf3 hy f0 f2 f3 Ir;generalize ns[y].text=s2 at*;cases he:(s1.toList==s2.toList) with
     |true=>
      have hno:¬((x.kids.map (aQ ns)).Nodup):=fun h=>by
       have h2:(x.kids.map (aQ ns))[i]?=(x.kids.map (aQ ns))[j]?:=by
        have e1:x.kids[i]?=some (z:Int):=by
         have:=pQ.out;have h3:=congrArg (fun l=>l[i]?) this;simp only [List.getElem?_take_of_lt (Nat.lt_succ_self i)] at h3;rw [h3,List.getElem?_append_right aV];simp [show min i x.kids.length=i by have:=Hq.out;omega]
        have e2:x.kids[j]?=some (y:Int):=by
         exact Mp
        rw [List.getElem?_map,List.getElem?_map,e1,e2];simp only [Option.map_some];rw [Hti.out,Htj.out];congr 1;have:=eq_of_beq he
        rwa [ByteArray.toList_eq,ByteArray.toList_eq] at this
       have h4:=(List.getElem?_inj (by simp;have:=Hq.out;omega) h).1 h2;omega
      have HD:Hid (decide ((x.kids.map (aQ ns)).Nodup)=false):=hid (decide_eq_false hno);clear hno;go_wp2;go_quiet (fail);exact NF
     |false=>
      have Hne:Hid (∀j':Nat,j'<j+1→aQ ns (x.kids.getD j' 0)≠s1.data.toList):=hid fun j' h=>by
       rcases Nat.lt_or_ge j' j with h2|h2
       ·exact hJ.out j' h2
       ·obtain rfl:j'=j:=by omega
        rw [Hgj.out,Htj.out];intro e;rw [ByteArray.toList_eq,ByteArray.toList_eq,e] at he;simp at he
      exact Mq
    ·obtain rfl:j=i:=by omega
     have HN:Hid (((x.kids.take (j+1)).map (aQ ns)).Nodup):=hid (by
      rw [pQ.out,List.map_append,List.map_cons,List.map_nil,Hti.out,List.nodup_append];refine⟨hR.out,by simp,fun a ha b' hb' e=>?_⟩;simp at hb';subst hb';subst e;obtain⟨k,tD,hk2⟩:=List.mem_map.1 ha;obtain⟨j',hj',hk3⟩:=List.mem_iff_getElem.1 tD;rw [List.length_take] at hj';rw [List.getElem_take] at hk3;refine hJ.out j' aa ?_;rw [List.getD,List.getElem?_eq_getElem aa,hk3];exact hk2)
     exact Mr
  ·obtain rfl:i=q:=by omega
   have hr:=hR.out;rw [List.take_of_length_le iJ] at hr;have HD:Hid (decide ((x.kids.map (aQ ns)).Nodup)=true):=hid (decide_eq_true hr);have j1:¬(i:Int)<(i:Int):=aa;clear hR hr;exact NF
 ):p:=h
theorem Tm (h:p:=by
 rw [←hq] at c2 eM;have Hq:=hid hq;clear hq;go_enter Tryz.func44,Tryz.ntmps44;go_wp2;go_loop [29] (fun iv=>∃j:Nat,iv=.int .i64 j∧j≤q∧Hid ((x.kids.dropLast.drop j).all (cy ns)=x.kids.dropLast.all (cy ns))) (fun iv=>q - (intOf iv).toNat)
 case atStart=>exact⟨0,rfl,by omega,rfl⟩
 case round=>
  obtain⟨j,rfl,hj,hR⟩:=hrel;by_cases Uv:j<q
  ·have qA:j<x.kids.length:=by have:=Hq.out;omega
   obtain⟨bk,ok,iW,dz,dy⟩:=cF Hf.out qA;have jx:x.kids.getD j 0=x.kids[j]:=Mo;have eC:=qZ.out x.kids[j] (List.getElem_mem qA);rw [jx] at dy;have j0:(0:Int)≤(j:Int):=aa;have j1:(j:Int)<(q:Int):=aa;by_cases kW:j+1<q
   ·have hd:=sD x.kids j iJ;have hr:=hR.out;rw [hd,List.all_cons] at hr;obtain⟨z,hz⟩:∃z:Nat,x.kids[j]=(z:Int):=⟨(x.kids[j]).toNat,by omega⟩;rw [hz] at hr eC dy;have hzl:z<ns.length:=aa;obtain⟨b2,o2,zM,hb2,hx2,hf2,d0,d1,d2,d3⟩:=aY Ha.out hzl;cases zM;have hka:=aR hx2;have hP:cy ns (z:Int)=decide (ns[z].kind≠10∧ns[z].kind≠11):=by unfold cy;rw [hka]
    rw [hP] at hr;have z0:(0:Int)≤(z:Int):=aa;have z1:(z:Int)<(L:Int):=dG;have j2:(j:Int)<(q:Int) - 1:=aa;have Hr:=hid hr;have Sz:=hid iW;rw [iW] at c2;clear hR hr hd jx hx2 hf2 hka hP hz qA iW d1 d2 d3;generalize ns[z]=y at*;generalize y.kind=ky at*;by_cases Nk:ky=10
    ·have HR:Hid (x.kids.dropLast.all (cy ns)=false):=hid (by rw [←Hr.out,Nk];rfl);subst Nk;exact NH
    ·have agE:=bK Nk;by_cases Nl:ky=11
     ·have HR:Hid (x.kids.dropLast.all (cy ns)=false):=hid (by rw [←Hr.out,Nl];rfl);subst Nl;exact NH
     ·have agF:=bK Nl;have HR:Hid ((x.kids.dropLast.drop (j+1)).all (cy ns)=x.kids.dropLast.all (cy ns)):=hid (by
       rw [←Hr.out,decide_eq_true (⟨Nk,Nl⟩:ky≠10∧ky≠11),Bool.true_and])
      clear Hr Nk Nl;rw [Sz.out];go_wp2;go_round
      case rel=>exact⟨j+1,by go_num,by omega,HR⟩
      case measure=>simp [intOf];omega
   ·have hd:=dV x.kids j iJ;have zE:=dV x.kids (j+1) iJ;have hr:=hR.out;rw [hd] at hr;have Hr:Hid ((x.kids.dropLast.drop (j+1)).all (cy ns)=x.kids.dropLast.all (cy ns)):=hid (by rw [zE];exact hr);have j2:¬(j:Int)<(q:Int) - 1:=aa;have Sz:=hid iW;rw [iW] at c2;generalize x.kids[j]=u at*;clear hR hr hd zE jx iW;rw [Sz.out];go_wp2;go_round
    case rel=>exact⟨j+1,by go_num,by omega,Hr⟩
    case measure=>simp [intOf];omega
  ·obtain rfl:j=q:=by omega
   have hr:=hR.out;rw [dV x.kids j iJ] at hr;have Hr:=hid (show x.kids.dropLast.all (cy ns)=true from hr.symm);have j1:¬(j:Int)<(j:Int):=aa;clear hR hr;go_wp2;exact tM
 ):p:=h
theorem W4 (h:p:=by
 obtain⟨b,o,hp,hb,hx,hf,c0,c1,c2,c3⟩:=aY ha hn;subst hp;have n0:(0:Int)≤(n:Int):=aa;have n1:(n:Int)<(ns.length:Int):=aa;have qZ:=hid dR;have Hf:=hid hf;have Ha:=hid ha;have hns:ns.length≤5000:=aa;obtain⟨L,zN⟩:∃L,L=ns.length:=⟨_,rfl⟩;rw [←zN] at hL n1 hns ⊢;rw [hk] at c0;have HL:=hid zN;clear hx hf dR ha hk zN;generalize ns[n]=x at*;obtain⟨q,hq⟩:∃q,q=x.kids.length:=⟨_,rfl⟩
 first
 |(have:=Ot;exact Tl)
 |(have:=Ou;exact Tm)
 ):p:=h
theorem Tn (h:p:=by
 have hst:(ts.map (fun s:ByteArray=>s.data.toList)).take (k+1)=(ts.map (fun s:ByteArray=>s.data.toList)).take k++[(fun s:ByteArray=>s.data.toList) ts[k]]:=by
  rw [List.take_succ_eq_append_getElem (by simpa using Bf)];simp
 clear h1 h2 hg;generalize ts[k]=s at*;obtain⟨t,ht⟩:∃t:ByteArray,t=s:=⟨_,rfl⟩;have Kz:Hid (∀w,Calls Tryz.prog 132 #[.string s] w fun e w'=>e=.returned (.string t)∧w=w'):=hid (by rw [ht];exact Qe s hcs);have JP:(fun s:ByteArray=>s.data.toList) s=t.data.toList:=by subst ht;rfl
 rw [JP] at hst;have hkey:keyOf Tryz.prog 9 (.string t)=some (.string t.data.toList):=keyOf_string_mk Tryz.underlying9 (by rw [ht];have:=hcs;unfold maxLen;omega);have Hst:=hid hst;have k0:(0:Int)≤(k:Int):=aa;have k1:(k:Int)<(m:Int):=aa;have kk0:(0:Int)≤(kk:Int):=aa;have kk1:(kk:Int)<(n:Int):=aa;clear hst JP ht hcs;go_wp2_with (first
  |(go_at_call 132;((with_reducible refine(Kz.out _).mono ?_));rintro e w' ⟨rfl,rfl⟩)
  |(at_lookup;refine wpList_lookup_own_int _ rfl _ _ 147 rfl 9 3 .i64 Eo Tryz.underlying147 Tryz.underlying3 (rP _) w.heap.size k _ rfl hown _ _ rfl hkey ?_;intro c hat hwc)
  |(at_mapUpdate;refine wpList_mapUpdate_own _ rfl _ _ _ 147 rfl 9 3 Eo Tryz.underlying147 _ w.heap.size k _ rfl hown kT _ _ _ rfl rfl hkey _ [] (plainElem_int Tryz.underlying3 (wrap64_wf _)) ?_))
 exact Wj
 ):p:=h
theorem Tp (h:p:=by
 have hst:(ts.map (fun s:ByteArray=>s.data.toList.take 1)).take (k+1)=(ts.map (fun s:ByteArray=>s.data.toList.take 1)).take k++[(fun s:ByteArray=>s.data.toList.take 1) ts[k]]:=by
  rw [List.take_succ_eq_append_getElem (by simpa using Bf)];simp
 clear h1 h2 hg;generalize ts[k]=s at*;obtain⟨t,ht⟩:∃t:ByteArray,t=(s.extract 0 1):=⟨_,rfl⟩;have Kz:Hid (∀w,Calls Tryz.prog 133 #[.string s] w fun e w'=>e=.returned (.string t)∧w=w'):=hid (by rw [ht];exact Qf s hcs);have JP:(fun s:ByteArray=>s.data.toList.take 1) s=t.data.toList:=by subst ht;simp [ByteArray.extract_mk,Array.toList_extract]
 rw [JP] at hst;have hkey:keyOf Tryz.prog 9 (.string t)=some (.string t.data.toList):=keyOf_string_mk Tryz.underlying9 (by rw [ht];rw [ByteArray.size_extract];have:=hcs.2;unfold maxLen;omega);have Hst:=hid hst;have k0:(0:Int)≤(k:Int):=aa;have k1:(k:Int)<(m:Int):=aa;have kk0:(0:Int)≤(kk:Int):=aa;have kk1:(kk:Int)<(n:Int):=aa;clear hst JP ht hcs;go_wp2_with (first
  |(go_at_call 133;((with_reducible refine(Kz.out _).mono ?_));rintro e w' ⟨rfl,rfl⟩)
  |(at_lookup;refine wpList_lookup_own_int _ rfl _ _ 147 rfl 9 3 .i64 Eo Tryz.underlying147 Tryz.underlying3 (rP _) w.heap.size k _ rfl hown _ _ rfl hkey ?_;intro c hat hwc)
  |(at_mapUpdate;refine wpList_mapUpdate_own _ rfl _ _ _ 147 rfl 9 3 Eo Tryz.underlying147 _ w.heap.size k _ rfl hown kT _ _ _ rfl rfl hkey _ [] (plainElem_int Tryz.underlying3 (wrap64_wf _)) ?_))
 exact Wj
 ):p:=h
theorem UL (h:p:=by
 have Bf:k<ts.length:=by have:=Hts.out;omega
 have hg:ts[k]?=some ts[k]:=List.getElem?_eq_getElem Bf;have hcs:=Hc.out ts[k] (List.getElem_mem Bf);obtain⟨b,o,bq,oq,kk,rfl,rfl,hb,hbq,eA,h1,h2⟩:=Hk.out k _ hg;have e1:wr.cell? ⟨bq,oq+k,none⟩=some (.int .i64 kk):=(eO.cell (p:=⟨bq,oq+k,none⟩) hbq).trans h1;have e2:wr.cell? ⟨b,o+kk*4+1,none⟩=some (.string ts[k]):=(eO.cell (p:=⟨b,o+kk*4+1,none⟩) hb).trans h2
 first
 |(have:=KW;exact Tn)
 |(have:=KY;exact Tp)
 ):p:=h
theorem Tq (h:p:=by
 cases hp:dD x with
 |false=>
  have Hp:Hid (cr s.data.toList=false):=hid (by rw [Hx.out,hp];rfl);go_wp2_with (go_at_call 159;((with_reducible refine(Cz x CA _).mono ?_));rintro e w' ⟨rfl,hb⟩;obtain⟨g3,rfl⟩:=aA hb;clear hb);exact NL
 |true=>
  have Hp:Hid (cr s.data.toList=(s.data.toList.drop (k+1)).all (fun b=>dD b.toNat)):=hid (by rw [Hx.out,hp];rfl);go_wp2_with (go_at_call 159;((with_reducible refine(Cz x CA _).mono ?_));rintro e w' ⟨rfl,hb⟩;obtain⟨g3,rfl⟩:=aA hb;clear hb);exact NU
 ):p:=h
theorem Ts (h:p:=by
 cases hp:dD x with
 |false=>
  have Hp:Hid (cr s.data.toList=false):=hid (by rw [Hx.out,hp];rfl);go_wp2_with (go_at_call 103;((with_reducible refine(yl x CA _).mono ?_));rintro e w' ⟨rfl,hb⟩;obtain⟨g3,rfl⟩:=aA hb;clear hb);exact NL
 |true=>
  have Hp:Hid (cr s.data.toList=(s.data.toList.drop (k+1)).all (fun b=>dD b.toNat)):=hid (by rw [Hx.out,hp];rfl);go_wp2_with (go_at_call 103;((with_reducible refine(yl x CA _).mono ?_));rintro e w' ⟨rfl,hb⟩;obtain⟨g3,rfl⟩:=aA hb;clear hb);exact NU
 ):p:=h
theorem W8 (h:p:=by
 have hpl:k<s.data.toList.length:=by rw [Hln.out];exact hlt
 have hx:=wR s.data.toList k hpl;rw [hR.out] at hx;have hbe:s.data.toList[k]=s[k]:=iM;rw [hbe] at hx;have CA:(s[k]).toNat<256:=(s[k]).toNat_lt;obtain⟨x,JS⟩:∃x,(s[k]).toNat=x:=⟨_,rfl⟩;rw [JS] at hx CA;have Hx:=hid hx;have k0:(0:Int)≤(k:Int):=aa;have k1:(k:Int)<(s.size:Int):=aa;clear hx hbe hR
 first
 |(have:=Ov;exact Tq)
 |(have:=Ow;exact Ts)
 ):p:=h
theorem Tt (h:p:=by
 have aJ:mE ops Φ a0 o ca w:=fun t ht=>by
  refine⟨fun j p hp qR=>?_,fun hno=>fM t hno⟩;refine dB j p t hp qR ?_;exact Wv
 refine hop i o ca w ho hb aJ _ fun v w' hb' hv=>?_
 refine ih _ _ _ (by simpa using hsz) (by have:=iU listed i h4;omega) (hb.trans (hb'.mono hb.size)) ?_ ?_ ?_ ?_ ?_
 ·rw [←hd];cases o.dst<;>rfl
 ·rw [←hs];cases o.dst<;>simp [Act.put]
 ·exact VZ
 ·intro j p d hp qR hj;by_cases e1:j=i
  ·exact Wq
  ·have hne:¬i=j:=fun h=>e1 h.symm
   have hj':listed.getD j false=true:=Nt;have h0:=dB j p d hp qR hj';have hdd:o.dst≠some d:=fun Y0=>by
    exact NN
   have:(ca.put o.dst v).tmps.getD d undef=ca.tmps.getD d undef:=by
    exact NI
   rw [this];exact LJ j w w' _ hb' h0
 ·exact Wl
 ):p:=h
theorem Tu (h:p:=by
 have aJ:mE ops Φ a0 o ca w:=fun t ht=>by
  refine⟨fun j p hp qR=>?_,fun hno=>fM t hno⟩;refine dB j p t hp qR ?_ (fun z hsj=>?_)
  rotate_left
  ·rcases E4 (hsp z) hsj hp qR ho ht with h|h
   ·subst h;exact WL
   ·cases hls:listed.getD z false with
    |false=>rfl
    |true=>have:=h.mem AQ hls;rw [WL] at this;cases this
  exact Wv
 refine hop i o ca w (fun i=>listed.getD i false) ho hb WL (fun j hj=>ql j (gp ops ops [] (fun k o hk=>by simpa using hk) (fun j i h=>by simp at h) j i hj)) aJ _ fun v w' hI' agW hv=>?_
 refine ih _ _ _ (by simpa using hsz) (by have:=iU listed i h4;omega) (by
  have e:(fun k=>(listed.setIfInBounds i true).getD k false)=fun j=>if j=i then true else listed.getD j false:=by
   funext k;by_cases hk:k=i
   ·subst hk;simp [hi']
   ·have hne:¬i=k:=fun h=>hk h.symm
    simp [Array.getElem?_setIfInBounds,hne,hk]
  rw [e];exact hI') ?_ ?_ ?_ ?_ ?_
 ·rw [←hd];cases o.dst<;>rfl
 ·rw [←hs];cases o.dst<;>simp [Act.put]
 ·exact VZ
 ·intro j p d hp qR hj agX;by_cases e1:j=i
  ·exact Wq
  ·have hne:¬i=j:=fun h=>e1 h.symm
   have hj':listed.getD j false=true:=Nt;have hz:∀z,sp z j=true→z≠i∧listed.getD z false=false:=fun z h=>by
    have h1:=agX z h;by_cases e3:i=z
    ·subst e3;simp [hi'] at h1
    ·exact⟨fun e=>e3 e.symm,by simpa [Array.getElem?_setIfInBounds,e3] using h1⟩
   have h0:=dB j p d hp qR hj' fun z h=>(hz z h).2
   have hdd:o.dst≠some d:=fun Y0=>by
    exact NN
   have:(ca.put o.dst v).tmps.getD d undef=ca.tmps.getD d undef:=by
    exact NI
   rw [this];refine LJ i j w w' _ (fun e=>e1 e.symm) ?_ agW h0;cases h:sp i j with
   |false=>rfl
   |true=>exact absurd rfl (hz i h).1
 ·exact Wl
 ):p:=h
theorem U8 (h:p:=by
 intro i hi;obtain⟨h4,o,Du,hall⟩:=mem_ready.1 hi;have ho:ops[i]?=some o:=by simpa using Du
 have hlt:i<ops.length:=(List.getElem?_eq_some_iff.1 ho).1;have hi':i<listed.size:=aa;have WL:listed.getD i false=false:=by simp [hi'] at h4 ⊢;exact h4
 have ql:∀j,cN ops j i→listed.getD j false=false:=fun j h=>by
  exact Y8
 have Aj:∀j,cN ops i j→listed.getD j false=true:=fun j h=>by
  exact Y2
 first
 |(have:=Ml;exact Tt)
 |(have:=LM;exact Tu)
 ):p:=h
theorem Tv (h:p:=by
 go_roundw
 case rel=>exact⟨j+1,aW.set z true,_,by omega,by go_num,by simp [ia],by rw [List.map_set],hid (iC hI.out HTk.out dG aa HTX.out (.inl rfl) I9.out A0.out rfl)⟩
 case measure=>simp [intOf];omega
 ):p:=h
theorem Tw (h:p:=by
 go_roundw
 case rel=>exact⟨j+1,aW.set z true,_,by omega,by go_num,by simp [ia],by rw [List.map_set],hid (gj hI.out (fun _=>hI.out _ A0.out))⟩
 case measure=>simp [intOf];omega
 ):p:=h
theorem VY (h:p:=by
 have hz2:aW[z]?=some true:=by rw [←fN,List.getD,List.getElem?_eq_getElem aa];rfl
 have A0:=hid fN;clear fN;go_wp2_with (first
  |(go_at_call 30;((with_reducible refine(Hx.out _).mono ?_);rintro e w' ⟨rfl,hb⟩;obtain⟨g3,rfl⟩:=aA hb;clear hb))
  |(go_at_call 30;((with_reducible refine(Hy.out _).mono ?_);rintro e w' ⟨rfl,hb⟩;obtain⟨g3,rfl⟩:=aA hb;clear hb)))
 first
 |(have:=Ox;exact Tv)
 |(have:=Ns;exact Tw)
 ):p:=h
theorem Tx (h:p:=by
 refine⟨.tuple #[.slice none 0 0,.int .i64 n2], ?_, ?_,_,_,rfl,Hn2.out.symm,.inl ⟨He.out,rfl⟩⟩
 ·simp [results,Tryz.f12,go_sem]
 ·repeat (first|exact Below.refl _ _|refine bG ?_ _|refine bI ?_ _ _|refine bA ?_ _)
 ):p:=h
theorem Ty (h:p:=by
 refine⟨.tuple #[.slice none 0 0,.int .i64 n2], ?_, ?_,_,_,rfl,Hn2.out.symm,.inl ⟨He.out,rfl⟩⟩
 ·simp [results,Tryz.f10,go_sem]
 ·repeat (first|exact Below.refl _ _|refine bG ?_ _|refine bI ?_ _ _|refine bA ?_ _)
 ):p:=h
theorem Uu (h:p:=by
 have hne:(n2 !=0)=true:=by simp [e0]
 have He:=hid e0;clear e0;gi_wp2_with (first
  |(refine⟨trivial, ?_⟩;(try refine⟨hdd _, ?_⟩);gi_at_call 27;((with_reducible refine(F1.out _ ?_).mono ?_);rotate_left;rintro e w' ⟨rfl,hb⟩;obtain⟨g1,rfl⟩:=aA hb;clear hb)))
 all_goals (try (repeat (first|exact Below.refl _ _|refine bG ?_ _|refine bI ?_ _ _|refine bA ?_ _)))
 first
 |(have:=J7;exact Tx)
 |(have:=Oy;exact Ty)
 ):p:=h
theorem Tz (h:p:=by
 go_enter Tryz.func123,Tryz.ntmps123;go_wp2;go_ret;exact⟨by rw [Hn.out];rfl,Below.refl _ _⟩
 ):p:=h
theorem TA (h:p:=by
 go_enter Tryz.func70,Tryz.ntmps70;go_wp2;go_ret;exact⟨by rw [Hn.out];rfl,Below.refl _ _⟩
 ):p:=h
theorem UY (h:p:=by
 have he:(s.toList==[])=true:=by
  rw [ByteArray.toList_eq,List.eq_nil_of_length_eq_zero (show s.data.toList.length=0 by omega)];rfl
 have hn:cr s.data.toList=false:=by rw [List.eq_nil_of_length_eq_zero (show s.data.toList.length=0 by omega)];rfl
 have Hn:=hid hn;clear hn h0 dW
 first
 |(have:=Oz;exact Tz)
 |(have:=Lg;exact TA)
 ):p:=h
theorem TB (h:p:=by
 have hlen:=pg ns pre.length (Nat.le_of_lt (List.getElem?_eq_some_iff.1 hnz).1);have eA:ag ns (pre.length:Int)≠2:=by unfold ag;rw [Int.toNat_natCast,hnz];exact hk2
 have W9:os.length=(cB ns pre.length).2.length:=by rw [←r2,List.length_map]
 rw [List.length_append,show [x].length=1 from rfl,uZ hnz hk hk2];refine⟨?_, ?_⟩
 ·rw [←W9];exact tO r1 hlen _ eA
 ·rw [List.map_append,r2];show _++[(nd.kind,nd.text,eK D nd.kids,nd.place)]=_;rw [CB r1 _ abv]
 ):p:=h
theorem TC (h:p:=by
 have hlen:=rF (Nat.le_of_lt (List.getElem?_eq_some_iff.1 hnz).1);have W9:os.length=(aP ns pre.length).2.length:=by rw [←r2,List.length_map]
 rw [List.length_append,show [x].length=1 from rfl,hstep r1];refine⟨?_, ?_⟩
 ·rw [←W9];exact sF r1 hlen _ F4
 ·rw [List.map_append,r2];rfl
 ):p:=h
theorem Um (h:p:=by
 refine⟨⟨hK.2.cells _ _ _ ay ay hb,hK.2.cells _ _ _ ay ay ht⟩,hB.trans (hK.1.mono Ul),_,_,_,by simp;omega,by simp;omega,hL,fun hg=>?_⟩;obtain⟨g1,g2⟩:=hg.snoc;obtain⟨r1,r2⟩:=h6 g1;obtain rfl:z=pre.length:=aa
 first
 |(have:=JW;exact TB)
 |(have:=OA;exact TC)
 ):p:=h
theorem ZK (h:p:=by
 go_loopw [14] (fun iv wr=>∃(i:Nat) (us:List Bool) (g:eo),i≤L∧iv=.int .i64 i∧wr=grow (W.alloc (.cells (us.map Value.bool).toArray 4)) g∧us.length=L∧Hid (vG ns us)) (fun iv _=>L - (intOf iv).toNat)
 case atStart=>exact⟨0,List.replicate L false,g1,by omega,rfl,by simp,by simp,hid (E5 ns L)⟩
 case round=>
  obtain⟨i,us,g,hn,rfl,rfl,Ll,hR⟩:=hrel;by_cases hlt:i<L
  ·have TD:=trivial;exact adB
  ·have Ol:=trivial;exact WY
 ):p:=h
theorem ZL (h:p:=by
 go_loopw [14] (fun iv wr=>∃(i:Nat) (us:List Bool) (g:eo),i≤L∧iv=.int .i64 i∧wr=grow (W.alloc (.cells (us.map Value.bool).toArray 4)) g∧us.length=L∧Hid (nE ns (sS ns (ns.take i)) us)) (fun iv _=>L - (intOf iv).toNat)
 case atStart=>exact⟨0,List.replicate L false,g1,by omega,rfl,by simp,by simp,hid (B8 ns L)⟩
 case round=>
  obtain⟨i,us,g,hn,rfl,rfl,Ll,hR⟩:=hrel;by_cases hlt:i<L
  ·have TE:=trivial;exact adB
  ·have Om:=trivial;exact WY
 ):p:=h
theorem acP (h:p:=by
 obtain⟨iB,YI,YJ,YK,YL⟩:=info_parts Tryz.MG;have hBW:Bl<W.heap.size:=Ca;have Ha:Hid (aj W p ns):=hid (aj.later ha hB);have Hs:=hid hs;have PF:=hid QK;obtain⟨L,hL⟩:∃L,L=ns.length:=⟨_,rfl⟩;rw [←hL] at hBl hY ⊢;have hL5:(L:Int)≤5000:=by have:=hs.1;omega
 have HL:=hid hL;have HY:=hid hY;have HJ:Hid (∀W',Below W.heap.size W W'→J [] W'):=hid fun W' hb=>hJ [] W W' none h0 ⟨hb.os,hb.tape,hb.output,hb.size,fun n h _=>hb.block n h⟩ (fun r e=>by cases e)
 have HB:=hid hB;have HKp:=hid hKp;have HKb:=hid hKb;clear ha hs QK hL hY hJ h0 hB hKp hKb;refine callsIn_of_wp Tryz.func59 rfl trivial ?_ rfl;simp only [Tryz.ntmps59,List.size_toArray,List.length_cons,List.length_nil,Nat.reduceAdd,Nat.reduceSub,Array.replicate_succ,Array.replicate_zero,List.push_toArray,List.append_toArray,List.nil_append,List.cons_append];refine(wpIn_wide (n:=n)).2 ?_;go_wp2_with (refine wpList_make_full _ rfl _ _ 69 rfl W.heap.size 4 iB (.bool false) 1 Tryz.underlying69 YI YJ YK .i64 .i64 _ _ L rfl rfl (by go_num) (by go_num) ?_ ?_ ?_ ?_)
 ·rw [YL];omega
 ·unfold maxLen;omega
 ·simp
 intro w1 hO hG;obtain⟨g1,rfl⟩:=pH hO hG ai;clear hO hG;have lV:(madeCells #[Value.bool false] L).toList=(List.replicate L false).map Value.bool:=by
  exact zx
 rw [lV];clear lV YI YJ YK YL;go_wp2
 first
 |(have:=TF;exact ZK)
 |(have:=QL;exact ZL)
 ):p:=h
theorem ZM (h:p:=by
 exact ade
 ):p:=h
theorem ZN (h:p:=by
 exact adb
 ):p:=h
theorem ac8 (h:p:=by
 have TG:=trivial;exact adt
 ):p:=h
theorem ZO (h:p:=by
 by_cases iY:i<A.size
 ·exact VO
 ·have w1:¬(i:Int)<(A.size:Int):=by omega
  by_cases Dt:i<A.size+more
  ·have w2:(i:Int)<(A.size:Int)+(more:Int):=by omega
   omega
  ·have Oi:=trivial;exact WW
 ):p:=h
theorem ZP (h:p:=by
 by_cases iY:i<A.size
 ·exact VO
 ·have w1:¬(i:Int)<(A.size:Int):=by omega
  by_cases Dt:i<A.size+more
  ·have w2:(i:Int)<(A.size:Int)+(more:Int):=by omega
   have hpl:0<O.data.toList.length:=by rw [HOl.out];omega
   have hO0:0<O.size:=aa;have hw:jV A.data.toList O.data.toList B.data.toList more i=O[0]:=by
    unfold jV;rw [HAl.out,if_neg iY,if_pos Dt,List.getD,List.getElem?_eq_getElem hpl];exact B5
   have hl:(O[0]).toNat∈letters:=Ef.out _ (.inr (.inl (by
    have:O[0]=O.data.toList[0]:=iM;rw [this];exact List.getElem_mem hpl)))
   rw [hw] at hd;have hAm:(A.size:Int)+(more:Int)≤20010:=aa;obtain⟨cc,hcc⟩:∃cc,(O[0]).toNat=cc:=⟨_,rfl⟩;exact YX
  ·have Oj:=trivial;exact WW
 ):p:=h
theorem adC (h:p:=by
 have lB:i<ks.length:=by rw [Dr.out];exact hlt
 have hd:=Ja A.data.toList O.data.toList B.data.toList more ks i lB;rw [hR.out] at hd;rcases Hk.out with hk|⟨b,o,rfl,hb,hcell⟩
 ·rw [List.map_eq_nil_iff] at hk;rw [hk] at lB;simp at lB
 have hc:=hcell i (by simpa using lB);rw [List.getElem_map] at hc;obtain⟨k0,JJ⟩:=adD.out ks[i] (List.getElem_mem lB);generalize ks[i]=kd at*;have hc2:w.cell? ⟨b,o+i,none⟩=some (.int .i64 (kd:Int)):=hc;have i0:(0:Int)≤(i:Int):=aa;have i1:(i:Int)<(m:Int):=aa;clear hcell hc hR
 first
 |(have:=TH;exact ZO)
 |(have:=TI;exact ZP)
 ):p:=h
theorem ZQ (h:p:=by
 by_cases hs:x.kind=18∨x.kind=19∨x.kind=20
 ·exact adm
 ·have Oo:=trivial;exact WZ
 ):p:=h
theorem ZR (h:p:=by
 by_cases hs:x.kind=18∨x.kind=19∨x.kind=20
 ·exact adm
 ·have Oq:=trivial;exact WZ
 ):p:=h
theorem acA (h:p:=by
 obtain⟨k,rfl,hk,hR⟩:=hrel;have Bf:k<ns.length:=aa;obtain⟨b,o,rfl,hb,hx,hf,c0,c1,c2,c3⟩:=aY Ha.out Bf;have PS:=Hv.out k _ hk hx;generalize ns[k]=x at*;obtain⟨f,hkf,hr⟩:=hR.out;obtain⟨f,rfl⟩:∃f',f=f'+1:=⟨f - 1,by omega⟩;have hka:=aR hx;have cX:=L6 hx;have k0:(0:Int)≤(k:Int):=aa;have k1:(k:Int)<(L:Int):=aa
 first
 |(have:=Qx;exact ZQ)
 |(have:=Sm;exact ZR)
 ):p:=h
theorem ZT (h:p:=by
 have hr1:mM[k]?=some (m+1):=by rw [hrow2,List.getElem?_append_right aa];simp [lH]
 have YN:=hid AZ;have qh:=hid hrow2;have WO:=hid EX;have EZ:=hid lH;clear AZ hrow2 EX lH hR;by_cases hu:0≤u∧u<(k:Int)
 ·have TJ:=trivial;exact adE
 ·exact V0
 ):p:=h
theorem ZU (h:p:=by
 have hr1:mM[k]?=some m:=by rw [hrow2,List.getElem?_append_right aa];simp [lH]
 have YN:=hid AZ;have qh:=hid hrow2;have WO:=hid EX;have EZ:=hid lH;clear AZ hrow2 EX lH hR;by_cases hu:0≤u∧u<(k:Int)
 ·have TK:=trivial;exact adE
 ·exact V0
 ):p:=h
theorem adv (h:p:=by
 rcases Hx.out with ix|⟨bx,ox,RR,tP,sV⟩
 ·exact zV
 subst RR;have hjk:j<kids.length:=iJ;replace sV:=sV j hjk;have AZ:=CC ds kids j hjk;generalize kids[j]=u at*;have q0:(0:Int)≤(j:Int):=aa;have q1:(j:Int)<(q:Int):=aa;obtain⟨m,hrow2,G8,lD,EX⟩:=hR.out;have lH:=I7.out
 first
 |(have:=SJ;exact ZT)
 |(have:=SK;exact ZU)
 ):p:=h
theorem ZV (h:p:=by
 obtain⟨yf,UX⟩:∃y:Nat→Value,∀t,ca.tmps.getD t undef=y t:=⟨_,fun _=>rfl⟩;simp only [UX] at jM;clear UX;subst jM;simp only [List.setIfInBounds_toArray,List.set_cons_succ,List.set_cons_zero];obtain⟨g1,rfl⟩:=aA hb;clear hb hd hs dB fM h55 h57 h61;simp only [Am.jQ];go_wp2_with (first
  |(go_at_call 92;((with_reducible refine(sB.out _ Ao).mono ?_));rintro e w' ⟨rfl,hb⟩;obtain⟨g2,rfl⟩:=aA hb;clear hb)
  |(go_at_call 93;((with_reducible refine(Ng.out _ Ao).mono ?_));rintro e w' ⟨rfl,hb⟩;obtain⟨g3,rfl⟩:=aA hb;clear hb)
  |(go_at_call 91;((with_reducible refine(cO _).mono ?_));rintro e w' ⟨rfl,hw⟩;rw [hw];clear hw w')
  |(go_at_call 94;((with_reducible refine(yc.out _ Ao).mono ?_));rintro e w' ⟨rfl,hb⟩;obtain⟨g4,rfl⟩:=aA hb;clear hb)
  )
 go_end0;have hb9:Below (aM W U aW).heap.size (aM W U aW) (grow (((aM W U aW).alloc (.cells fa 85)).alloc (.cells #[.int .i64 k,.string text,.slice kp j aC,.int .i64 place] 30)) (((g1.app g2).app g3).app g4)):=bP;obtain⟨g9,h9⟩:=aA hb9;exact I1 (by rw [VJ.out];rfl) rfl g9 h9
 ):p:=h
theorem ZW (h:p:=by
 generalize ca.tmps.getD 56 undef=x56 at jM;generalize ca.tmps.getD 58 undef=x58 at jM;generalize ca.tmps.getD 59 undef=x59 at jM;generalize ca.tmps.getD 60 undef=x60 at jM;subst jM;simp only [List.setIfInBounds_toArray,List.set_cons_succ,List.set_cons_zero];obtain⟨g1,rfl⟩:=aA hb;clear hb hd hs dB fM h55 h57 h61;simp only [Am.jQ]
 first
 |(have:=Sc;exact Zp)
 |(have:=Sg;exact Zq)
 |(have:=Sh;exact Zr)
 ):p:=h
theorem acX (h:p:=by
 intro ca w1 hb hd hs dB fM;have h55:ca.tmps.getD 55 undef=.slice (some ⟨b,o,none⟩) L c:=dB 0 _ 55 rfl rfl;have h57:ca.tmps.getD 57 undef=.slice kp j aC:=dB 2 _ 57 rfl rfl;have h61:ca.tmps.getD 61 undef=str fo:=dB 6 _ 61 rfl rfl;have jM:=Am.jN hd hs fM;simp only [List.foldl_cons,List.foldl_nil,h55,h57,h61] at jM
 first
 |(have:=Si;exact ZV)
 |(have:=SG;exact ZW)
 ):p:=h
theorem ZX (h:p:=by
 have Hl:=hid hl;have hkey:keyOf Tryz.prog 9 (.string s)=some (.string s.data.toList):=keyOf_string_mk Tryz.underlying9 kT;have hname:cr s.data.toList=(!gw b.toNat && !decide (s.data.toList∈bf) && s.data.toList.all (fun b=>dD b.toNat)):=by
  rw [hbt];rfl
 clear dW hl h0 hbt;generalize TL:b.toNat=c at*;clear TL;have jZ:=hid hname;clear hname;cases hd:gw c with
 |true=>
  have Hr:Hid (cr s.data.toList=false):=hid (by rw [jZ.out,hd];rfl);clear jZ;go_enter Tryz.func123,Tryz.ntmps123;go_wp2_with (go_at_call 157;((with_reducible refine(oO c fP _).mono ?_));rintro e w' ⟨rfl,hb⟩;obtain⟨g1,rfl⟩:=aA hb;clear hb);exact tM
 |false=>
  by_cases hm:s.data.toList∈bf
  ·have Hc:Hid (∀c2:Int,(Wf 18).atKey (.string s.data.toList) (iw 0)=.lit (.int .i64 c2)→c2=1):=hid fun c2 h=>by
    rw [Xa,if_pos hm] at h;cases h;rfl
   have Hr:Hid (cr s.data.toList=false):=hid (by rw [jZ.out,hd,decide_eq_true hm];rfl);clear jZ hm;go_enter Tryz.func123,Tryz.ntmps123;go_wp2_with (first
  |(go_at_call 157;((with_reducible refine(oO c fP _).mono ?_));rintro e w' ⟨rfl,hb⟩;obtain⟨g1,rfl⟩:=aA hb;clear hb)
  |(go_at_call 158;refine(xx _ (Hl.out.later (bG (Below.refl _ _) _))).mono ?_;rintro e w' ⟨rfl,hb,hown⟩;obtain⟨g2,rfl⟩:=aA hb;clear hb;rw [size_grow,grow_grow] at hown;obtain⟨c2,hrun,hat,_⟩:=hown.lookup_int Eo Tryz.underlying147 Tryz.underlying3 (rP _) hkey;have e2:=Hc.out _ hat;subst e2;clear hown hat))
   go_ret;exact⟨by rw [Hr.out];rfl,cH⟩
  ·have Hc:Hid (∀c2:Int,(Wf 18).atKey (.string s.data.toList) (iw 0)=.lit (.int .i64 c2)→c2=0):=hid fun c2 h=>by
    rw [Xa,if_neg hm] at h;cases h;rfl
   have Hr:Hid (cr s.data.toList=s.data.toList.all (fun b=>dD b.toNat)):=hid (by rw [jZ.out,hd,decide_eq_false hm];rfl);clear jZ hm;go_enter Tryz.func123,Tryz.ntmps123;go_wp2_with (first
  |(go_at_call 157;((with_reducible refine(oO c fP _).mono ?_));rintro e w' ⟨rfl,hb⟩;obtain⟨g1,rfl⟩:=aA hb;clear hb)
  |(go_at_call 158;refine(xx _ (Hl.out.later (bG (Below.refl _ _) _))).mono ?_;rintro e w' ⟨rfl,hb,hown⟩;obtain⟨g2,rfl⟩:=aA hb;clear hb;rw [size_grow,grow_grow] at hown;obtain⟨c2,hrun,hat,_⟩:=hown.lookup_int Eo Tryz.underlying147 Tryz.underlying3 (rP _) hkey;have e2:=Hc.out _ hat;subst e2;clear hown hat))
   go_loopw [19] (fun i wr=>∃(k:Nat) (g:eo),i=.int .i64 k∧wr=grow w g∧k≤s.size∧Hid ((s.data.toList.drop k).all (fun b=>dD b.toNat)=cr s.data.toList)) (fun i _=>s.size - (intOf i).toNat)
   case atStart=>exact⟨0,_,rfl,rfl,by omega,hid Hr.out.symm⟩
   case round=>
    obtain⟨k,g,rfl,rfl,hk,hR⟩:=hrel;clear Hc hrun Hr;by_cases hlt:k<s.size
    ·have Ov:=trivial;exact W8
    ·exact Wn
 ):p:=h
theorem ZY (h:p:=by
 have hname:cr s.data.toList=(jb b.toNat && !decide (s.data.toList∈bf) && s.data.toList.all (fun b=>dD b.toNat)):=by
  rw [hbt];exact Ik b t
 have hw:∃x,x=decide (s.data.toList∈bf):=⟨_,rfl⟩;obtain⟨x,hx⟩:=hw;rw [←hx] at hname;have Xb:Hid (∀w,Calls Tryz.prog 102 #[.string s] w fun e w'=>e=.returned (.bool x)∧Below w.heap.size w w'):=hid (by rw [hx];exact Lf s);clear dW h0 hbt hx;generalize TL:b.toNat=c at*;clear TL;have jZ:=hid hname;clear hname;cases hd:jb c with
 |false=>
  have Hr:Hid (cr s.data.toList=false):=hid (by rw [jZ.out,hd];rfl);clear jZ;go_enter Tryz.func70,Tryz.ntmps70;go_wp2_with (go_at_call 101;((with_reducible refine(oP c fP _).mono ?_));rintro e w' ⟨rfl,hb⟩;obtain⟨g1,rfl⟩:=aA hb;clear hb);exact tM
 |true=>
  cases x with
  |true=>
   have Hr:Hid (cr s.data.toList=false):=hid (by rw [jZ.out,hd];rfl);clear jZ;go_enter Tryz.func70,Tryz.ntmps70;go_wp2_with (first
    |(go_at_call 101;((with_reducible refine(oP c fP _).mono ?_));rintro e w' ⟨rfl,hb⟩;obtain⟨g1,rfl⟩:=aA hb;clear hb)
    |(go_at_call 102;((with_reducible refine(Xb.out _).mono ?_));rintro e w' ⟨rfl,hb⟩;obtain⟨g1,rfl⟩:=aA hb;clear hb))
   exact tM
  |false=>
   have Hr:Hid (cr s.data.toList=s.data.toList.all (fun b=>dD b.toNat)):=hid (by rw [jZ.out,hd];rfl);clear jZ;go_enter Tryz.func70,Tryz.ntmps70;go_wp2_with (first
    |(go_at_call 101;((with_reducible refine(oP c fP _).mono ?_));rintro e w' ⟨rfl,hb⟩;obtain⟨g1,rfl⟩:=aA hb;clear hb)
    |(go_at_call 102;((with_reducible refine(Xb.out _).mono ?_));rintro e w' ⟨rfl,hb⟩;obtain⟨g1,rfl⟩:=aA hb;clear hb))
   go_loopw [3] (fun i wr=>∃(k:Nat) (g:eo),i=.int .i64 k∧wr=grow w g∧k≤s.size∧Hid ((s.data.toList.drop k).all (fun b=>dD b.toNat)=cr s.data.toList)) (fun i _=>s.size - (intOf i).toNat)
   case atStart=>exact⟨0,_,rfl,rfl,by omega,hid Hr.out.symm⟩
   case round=>
    obtain⟨k,g,rfl,rfl,hk,hR⟩:=hrel;clear Hr;by_cases hlt:k<s.size
    ·have Ow:=trivial;exact W8
    ·exact Wn
 ):p:=h
theorem ab5 (h:p:=by
 obtain⟨b,t,hbt⟩:∃b t,s.data.toList=b::t:=by
  exact Za
 have he:(s.toList==[])=false:=by rw [ByteArray.toList_eq,hbt];rfl
 have h1:(1:Int)≤(s.size:Int):=aa;have cD:0<s.size:=aa;have hb0:(s[0]'cD).toNat=b.toNat:=by
  exact Y6
 have fP:=b.toNat_lt;have Hln:=hid dW
 first
 |(have:=TM;exact ZX)
 |(have:=Qn;exact ZY)
 ):p:=h
theorem ZZ (h:p:=by
 have Sw:=HY.out (qj us j) ((j:Int),bv) wr hI.out.1 (by rw [gM];exact Dv) (by rw [gM]) (fun h=>hR.out j (YZ.trans h));exact Wa
 ):p:=h
theorem Z0 (h:p:=by
 have Sw:=HY.out (qj us j) ((j:Int),bv) wr hI.out.1 (by rw [gM];exact Dv) (by rw [gM]) (by rw [gM];exact YZ.symm.trans (HEx.out j Dv));exact Wa
 ):p:=h
theorem adA (h:p:=by
 have j0:(0:Int)≤(j:Int):=aa;have j1:(j:Int)<(i:Int):=aa;obtain⟨bv,YZ⟩:∃b,us.getD j false=b:=⟨_,rfl⟩;have hcell:wr.cell? ⟨W.heap.size,j,none⟩=some (.bool bv):=by
  exact Y1
 have hp:=Jb us j;rw [YZ] at hp;have Hp:=hid hp
 first
 |(have:=Tg;exact ZZ)
 |(have:=Ti;exact Z0)
 ):p:=h
theorem Z1 (h:p:=by
 clear hsm hq hf hx JS hk wL;go_wp2;go_loopw [21] (fun iv w2=>∃(j:Nat) (aW:List Bool) (g2:eo),j≤q∧iv=.int .i64 j∧aW.length=L∧w2=grow ((grow (W.alloc (.cells (aW.map Value.bool).toArray 4)) g).alloc (.cells #[.int .i64 kind,.string text,.slice kp q aC,.int .i64 place] 30)) g2∧Hid (vG ns aW)) (fun iv _=>q - (intOf iv).toNat)
 case atStart=>
  obtain⟨g0,h0⟩:=aA (Below.refl _ ((grow (W.alloc (.cells (us.map Value.bool).toArray 4)) g).alloc (.cells #[.int .i64 kind,.string text,.slice kp q aC,.int .i64 place] 30)));exact⟨0,us,g0,by omega,rfl,Ll,h0,hR⟩
 case round=>
  obtain⟨j,aW,g2,hj,rfl,ia,rfl,hI⟩:=hrel;by_cases Uv:j<q
  ·rcases Hf.out with ix|⟨bx,ox,RR,tP,sV⟩
   ·exact zV
   subst RR;have hjk:j<kids.length:=iJ;replace sV:=sV j hjk;have AU:=Hk.out kids[j] (List.getElem_mem hjk);generalize kids[j]=u at*;obtain⟨z,rfl⟩:∃z:Nat,u=(z:Int):=⟨u.toNat,by omega⟩;have q0:(0:Int)≤(j:Int):=aa;have q1:(j:Int)<(q:Int):=aa;have YM:z<ns.length:=aa;have z0:(0:Int)≤(z:Int):=aa;have z2:(z:Int)<(L:Int):=aa;obtain⟨b3,o3,h3,_,hx3,hf3,d0,d1,d2,d3⟩:=aY Ha.out YM;cases h3;have E6:=PF.out z ns[z] hx3;have OB:=Hs.out.2 ns[z] (List.getElem_mem YM);have HK3:=hid (aR hx3);obtain⟨q3,TN⟩:∃q,q=ns[z].kids.length:=⟨_,rfl⟩;have vH:Hid (0<ns[z].kids.length→∃bk ok,ns[z].kp=some ⟨bk,ok,none⟩∧bk<W.heap.size∧W.cell? ⟨bk,ok+0,none⟩=some (.int .i64 (ns[z].kids.getD 0 0))):=hid fun h=>cF hf3 h
   rw [←TN] at d2 vH;have Z2:Hid ((∀k∈ns[z].kids,0≤k∧k<(z:Int))∧(ns[z].kind=36→0<q3)):=hid ⟨E6.1,by rw [TN];exact E6.2.2.2⟩;have ag1:(q3:Int)≤20000:=by have:=OB.1;omega
   have HQ3:=hid TN;generalize TP:ns[z]=y at*;obtain⟨mO,CD,kp3,CE,vI,vJ⟩:=y;simp only at d0 d1 d2 d3 HK3 vH Z2 HQ3;obtain⟨ty,lA⟩:∃t,aq mO=t:=⟨_,rfl⟩;have Hy:Hid (∀w,Calls Tryz.prog 30 #[.agg #[.int .i64 mO,.string CD,.slice kp3 q3 CE,.int .i64 vJ]] w fun e w'=>e=.returned (.bool ty)∧Below w.heap.size w w'):=hid fun w=>by
    have h:=jX mO CD kp3 q3 CE vJ w;rw [lA] at h;exact h
   have I9:Hid (ty=true→aq (ag ns (z:Int))=true):=hid fun h=>by rw [HK3.out,lA,h]
   clear TP lA E6 OB hf3 hx3 TN AU;by_cases hc:mO=36
   ·cases tx with
    |true=>
     subst hc;cases fN:aW.getD z false with
     |true=>
      exact VX
     |false=>
      have hz2:aW[z]?=some false:=by rw [←fN,List.getD,List.getElem?_eq_getElem aa];rfl
      clear fN;cases ty with
      |false=>
       exact GA
      |true=>
       exact GA
    |false=>
     have OC:=Z2.out.2 hc;obtain⟨bk,ok,rfl,dz,ck⟩:=vH.out OC;have hk5:=Z2.out.1 (vI.getD 0 0) (by
      have h9:0<vI.length:=by rw [←HQ3.out];exact OC
      rw [List.getD,List.getElem?_eq_getElem h9];exact List.getElem_mem h9)
     generalize vI.getD 0 0=v at*;obtain⟨y,rfl⟩:∃y:Nat,v=(y:Int):=⟨v.toNat,by omega⟩;rw [Nat.add_zero] at ck;subst hc;clear Hy I9;have hyx:y<ns.length:=aa;have y0:(0:Int)≤(y:Int):=aa;have y2:(y:Int)<(L:Int):=aa;have q30:(0:Int)<(q3:Int):=aa;obtain⟨b4,o4,h4,_,TP,YS,e0,e1,e2,e3⟩:=aY Ha.out hyx;cases h4;have Z3:=Hs.out.2 ns[y] (List.getElem_mem hyx);have HK4:=hid (aR TP);obtain⟨q4,hq4⟩:∃q,q=ns[y].kids.length:=⟨_,rfl⟩;rw [←hq4] at e2;generalize ns[y]=yy at*;obtain⟨yj,GF,kp4,GG,adL,Al⟩:=yy;simp only at e0 e1 e2 e3 HK4;obtain⟨ty,lA⟩:∃t,aq yj=t:=⟨_,rfl⟩;have Hy:Hid (∀w,Calls Tryz.prog 30 #[.agg #[.int .i64 yj,.string GF,.slice kp4 q4 GG,.int .i64 Al]] w fun e w'=>e=.returned (.bool ty)∧Below w.heap.size w w'):=hid fun w=>by
      exact NZ
     have I9:Hid (ty=true→aq (ag ns (y:Int))=true):=hid fun h=>by rw [HK4.out,lA,h]
     clear lA Z3 YS TP hq4 hk5;cases fN:aW.getD y false with
     |true=>
      have hz2:aW[y]?=some true:=by rw [←fN,List.getD,List.getElem?_eq_getElem aa];rfl
      have A0:=hid fN;clear fN;go_wp2_with (first
       |(go_at_call 30;((with_reducible refine(Hx.out _).mono ?_);rintro e w' ⟨rfl,hb⟩;obtain⟨g3,rfl⟩:=aA hb;clear hb))
       |(go_at_call 30;((with_reducible refine(Hy.out _).mono ?_);rintro e w' ⟨rfl,hb⟩;obtain⟨g3,rfl⟩:=aA hb;clear hb)))
      go_roundw
      case rel=>exact⟨j+1,aW.set y true,_,by omega,by go_num,by simp [ia],by rw [List.map_set],hid (gj hI.out (fun _=>hI.out _ A0.out))⟩
      case measure=>simp [intOf];omega
     |false=>
      have hz2:aW[y]?=some false:=by rw [←fN,List.getD,List.getElem?_eq_getElem aa];rfl
      clear fN;cases ty with
      |false=>
       have SC:=trivial;exact Ai
      |true=>
       have SD:=trivial;exact Ai
   ·have hc1:(mO==36)=false:=by simp [hc]
    clear hc;cases fN:aW.getD z false with
    |true=>
     exact VX
    |false=>
     have hz2:aW[z]?=some false:=by rw [←fN,List.getD,List.getElem?_eq_getElem aa];rfl
     clear fN;cases ty with
     |false=>
      exact GA
     |true=>
      cases tx with
      |true=>
       exact GA
      |false=>
       have SE:=trivial;exact Ai
  ·obtain rfl:j=q:=by omega
   go_wp2;go_roundw
   case rel=>exact⟨i+1,aW,_,by omega,by go_num,sG Ok,ia,hI⟩
   case measure=>simp [intOf];omega
 ):p:=h
theorem Z4 (h:p:=by
 have ag2:Hid (∀us:List Bool,B9 ns i kind kids q us→nE ns (sS ns (ns.take (i+1))) us):=hid (fun us h=>Mw hx hq us h);have HTX:=hid wL;clear hsm hq hf hx JS hk wL;go_wp2;go_loopw [21] (fun iv w2=>∃(j:Nat) (aW:List Bool) (g2:eo),j≤q∧iv=.int .i64 j∧aW.length=L∧w2=grow ((grow (W.alloc (.cells (aW.map Value.bool).toArray 4)) g).alloc (.cells #[.int .i64 kind,.string text,.slice kp q aC,.int .i64 place] 30)) g2∧Hid (B9 ns i kind kids j aW)) (fun iv _=>q - (intOf iv).toNat)
 case atStart=>
  obtain⟨g0,h0⟩:=aA (Below.refl _ ((grow (W.alloc (.cells (us.map Value.bool).toArray 4)) g).alloc (.cells #[.int .i64 kind,.string text,.slice kp q aC,.int .i64 place] 30)));exact⟨0,us,g0,by omega,rfl,Ll,h0,hid (EI hR.out kind kids)⟩
 case round=>
  obtain⟨j,aW,g2,hj,rfl,ia,rfl,hI⟩:=hrel;by_cases Uv:j<q
  ·rcases Hf.out with ix|⟨bx,ox,RR,tP,sV⟩
   ·exact zV
   subst RR;have hjk:j<kids.length:=iJ;replace sV:=sV j hjk;have AU:=Hk.out kids[j] (List.getElem_mem hjk);have HTk:=hid (show kids.take (j+1)=kids.take j++[kids[j]] by rw [List.take_add_one,List.getElem?_eq_getElem hjk];rfl);generalize kids[j]=u at*;obtain⟨z,rfl⟩:∃z:Nat,u=(z:Int):=⟨u.toNat,by omega⟩;have q0:(0:Int)≤(j:Int):=aa;have q1:(j:Int)<(q:Int):=aa;have YM:z<ns.length:=aa;have z0:(0:Int)≤(z:Int):=aa;have z2:(z:Int)<(L:Int):=aa;obtain⟨b3,o3,h3,_,hx3,hf3,d0,d1,d2,d3⟩:=aY Ha.out YM;cases h3;have E6:=PF.out z ns[z] hx3;have OB:=Hs.out.2 ns[z] (List.getElem_mem YM);have HK3:=hid (aR hx3);obtain⟨q3,TN⟩:∃q,q=ns[z].kids.length:=⟨_,rfl⟩;have vH:Hid (0<ns[z].kids.length→∃bk ok,ns[z].kp=some ⟨bk,ok,none⟩∧bk<W.heap.size∧W.cell? ⟨bk,ok+0,none⟩=some (.int .i64 (ns[z].kids.getD 0 0))):=hid fun h=>cF hf3 h
   rw [←TN] at d2 vH;have Z2:Hid ((∀k∈ns[z].kids,0≤k∧k<(z:Int))∧(ns[z].kind=36→0<q3)):=hid ⟨E6.1,by rw [TN];exact E6.2.2.2⟩;have ag1:(q3:Int)≤20000:=by have:=OB.1;omega
   have HQ3:=hid TN;have E7:Hid (ns[z].kind=36→rep ns (z:Int)=ns[z].kids.getD 0 0):=hid (Yp hx3);have OD:Hid (ns[z].kind≠36→rep ns (z:Int)=(z:Int)):=hid (Yq hx3);generalize TP:ns[z]=y at*;obtain⟨mO,CD,kp3,CE,vI,vJ⟩:=y;simp only at d0 d1 d2 d3 HK3 vH Z2 HQ3 E7 OD;obtain⟨ty,lA⟩:∃t,aq mO=t:=⟨_,rfl⟩;have Hy:Hid (∀w,Calls Tryz.prog 30 #[.agg #[.int .i64 mO,.string CD,.slice kp3 q3 CE,.int .i64 vJ]] w fun e w'=>e=.returned (.bool ty)∧Below w.heap.size w w'):=hid fun w=>by
    have h:=jX mO CD kp3 q3 CE vJ w;rw [lA] at h;exact h
   have I9:Hid (aq (ag ns (z:Int))=ty):=hid (by rw [HK3.out];exact lA);clear TP lA E6 OB hf3 hx3 TN AU;by_cases hc:mO=36
   ·cases tx with
    |true=>
     subst hc;cases fN:aW.getD z false with
     |true=>
      have Ox:=trivial;exact VY
     |false=>
      have hz2:aW[z]?=some false:=by rw [←fN,List.getD,List.getElem?_eq_getElem aa];rfl
      have A0:=hid fN;clear fN;cases ty with
      |false=>
       exact V9
      |true=>
       exact V9
    |false=>
     have OC:=Z2.out.2 hc;have HRp:=hid (E7.out hc);obtain⟨bk,ok,rfl,dz,ck⟩:=vH.out OC;have hk5:=Z2.out.1 (vI.getD 0 0) (by
      have h9:0<vI.length:=by rw [←HQ3.out];exact OC
      rw [List.getD,List.getElem?_eq_getElem h9];exact List.getElem_mem h9)
     generalize vI.getD 0 0=v at*;obtain⟨y,rfl⟩:∃y:Nat,v=(y:Int):=⟨v.toNat,by omega⟩;rw [Nat.add_zero] at ck;subst hc;clear Hy I9 E7 OD;have hyx:y<ns.length:=aa;have y0:(0:Int)≤(y:Int):=aa;have y2:(y:Int)<(L:Int):=aa;have q30:(0:Int)<(q3:Int):=aa;obtain⟨b4,o4,h4,_,TP,YS,e0,e1,e2,e3⟩:=aY Ha.out hyx;cases h4;have Z3:=Hs.out.2 ns[y] (List.getElem_mem hyx);have HK4:=hid (aR TP);obtain⟨q4,hq4⟩:∃q,q=ns[y].kids.length:=⟨_,rfl⟩;rw [←hq4] at e2;generalize ns[y]=yy at*;obtain⟨yj,GF,kp4,GG,adL,Al⟩:=yy;simp only at e0 e1 e2 e3 HK4;obtain⟨ty,lA⟩:∃t,aq yj=t:=⟨_,rfl⟩;have Hy:Hid (∀w,Calls Tryz.prog 30 #[.agg #[.int .i64 yj,.string GF,.slice kp4 q4 GG,.int .i64 Al]] w fun e w'=>e=.returned (.bool ty)∧Below w.heap.size w w'):=hid fun w=>by
      exact NZ
     have I9:Hid (aq (ag ns (y:Int))=ty):=hid (by rw [HK4.out];exact lA);clear lA Z3 YS TP hq4 hk5;cases fN:aW.getD y false with
     |true=>
      have hz2:aW[y]?=some true:=by rw [←fN,List.getD,List.getElem?_eq_getElem aa];rfl
      have A0:=hid fN;clear fN;exact V7
     |false=>
      have hz2:aW[y]?=some false:=by rw [←fN,List.getD,List.getElem?_eq_getElem aa];rfl
      have A0:=hid fN;clear fN;cases ty with
      |false=>
       have SF:=trivial;exact Ai
      |true=>
       exact V7
   ·have hc1:(mO==36)=false:=by simp [hc]
    have HRp:=hid (OD.out hc);clear hc;cases fN:aW.getD z false with
    |true=>
     have hz2:aW[z]?=some true:=by rw [←fN,List.getD,List.getElem?_eq_getElem aa];rfl
     have A0:=hid fN;clear fN;exact V8
    |false=>
     have hz2:aW[z]?=some false:=by rw [←fN,List.getD,List.getElem?_eq_getElem aa];rfl
     have A0:=hid fN;clear fN;cases ty with
     |false=>
      exact V6
     |true=>
      cases tx with
      |true=>
       exact V6
      |false=>
       exact V8
  ·obtain rfl:j=q:=by omega
   go_wp2;go_roundw
   case rel=>exact⟨i+1,aW,_,by omega,by go_num,sG Ok,ia,hid (ag2.out _ hI.out)⟩
   case measure=>simp [intOf];omega
 ):p:=h
theorem adB (h:p:=by
 have eO:i<ns.length:=dG;obtain⟨b,o,rfl,hb,hx,hf,c0,c1,c2,c3⟩:=aY Ha.out eO;have hsm:=Hs.out.2 ns[i] (List.getElem_mem eO);have hk:=(PF.out i ns[i] hx).1;have i0:(0:Int)≤(i:Int):=aa;have i1:(i:Int)<(L:Int):=aa;obtain⟨q,hq⟩:∃q,q=ns[i].kids.length:=⟨_,rfl⟩;have Dn:(q:Int)≤20000:=by have:=hsm.1;omega
 have Hf:=hid hf.2.2.2.2.2;generalize JS:ns[i]=x at*;obtain⟨kind,text,kp,aC,kids,place⟩:=x;simp only at hsm c0 c1 c2 c3 hq Hf hk;rw [←hq] at c2;have Hq:=hid hq;have Hk:=hid hk;obtain⟨tx,wL⟩:∃t,aq kind=t:=⟨_,rfl⟩;have Hx:Hid (∀w,Calls Tryz.prog 30 #[.agg #[.int .i64 kind,.string text,.slice kp q aC,.int .i64 place]] w fun e w'=>e=.returned (.bool tx)∧Below w.heap.size w w'):=hid fun w=>by
  have h:=jX kind text kp q aC place w;rw [wL] at h;exact h
 first
 |(have:=TD;exact Z1)
 |(have:=TE;exact Z4)
 ):p:=h
theorem Z5 (h:p:=by
 clear yh hk eM bh oC hAl hOl hBl Z6;go_enter Tryz.func42,Tryz.ntmps42;go_wp2_with (first
  |(go_at_call 68;((with_reducible refine(Hsh.out _).mono ?_));rintro e w' ⟨rfl,hb⟩;obtain⟨g0,rfl⟩:=aA hb;clear hb))
 go_loopw [10] (fun iv wr=>∃(i:Nat) (g:eo),iv=.int .i64 i∧wr=grow w g∧i≤m∧Hid (gi A.data.toList O.data.toList B.data.toList more (ks.drop i) i=gi A.data.toList O.data.toList B.data.toList more ks 0)) (fun iv _=>m - (intOf iv).toNat)
 case atStart=>exact⟨0,_,rfl,rfl,by omega,rfl⟩
 case round=>
  obtain⟨i,g,rfl,rfl,hi,hR⟩:=hrel;by_cases hlt:i<m
  ·have TH:=trivial;exact adC
  ·exact We
 ):p:=h
theorem Z7 (h:p:=by
 have hO2:O.toList.isEmpty=false:=by
  rw [ByteArray.toList_eq];cases e:O.data.toList with
  |nil=>rw [e] at hOl;simp at hOl;omega
  |cons x l=>rfl
 have hmn:0<more:=aa;clear yh hk eM bh oC hAl hOl hBl Z6;go_enter Tryz.func42,Tryz.ntmps42;go_wp2_with (first
  |(go_at_call 68;((with_reducible refine(Hsh.out _).mono ?_));rintro e w' ⟨rfl,hb⟩;obtain⟨g0,rfl⟩:=aA hb;clear hb))
 go_loopw [10] (fun iv wr=>∃(i:Nat) (g:eo),iv=.int .i64 i∧wr=grow w g∧i≤m∧Hid (gi A.data.toList O.data.toList B.data.toList more (ks.drop i) i=gi A.data.toList O.data.toList B.data.toList more ks 0)) (fun iv _=>m - (intOf iv).toNat)
 case atStart=>exact⟨0,_,rfl,rfl,by omega,rfl⟩
 case round=>
  obtain⟨i,g,rfl,rfl,hi,hR⟩:=hrel;by_cases hlt:i<m
  ·have TI:=trivial;exact adC
  ·exact We
 ):p:=h
theorem adN (h:p:=by
 have Hsh:=hid yh;have Hk:=hid hk;have Dr:=hid eM;have adD:=hid bh;have Ef:=hid oC;have hm3:(more:Int)≤20000:=aa;have G8:decide ((more:Int)<0)=false:=decide_eq_false aa;have hAl:A.data.toList.length=A.size:=ai;have hOl:O.data.toList.length=O.size:=ai;have hBl:B.data.toList.length=B.size:=ai;have HAl:=hid hAl;have HOl:=hid hOl;have HBl:=hid hBl;have Z6:(m:Int)=(A.size:Int)+(more:Int)+(B.size:Int):=aa;have agS:=hid Z6
 first
 |(have:=TQ;exact Z5)
 |(have:=TR;exact Z7)
 ):p:=h
theorem Z8 (h:p:=by
 obtain⟨yf,UX⟩:∃y:Nat→Value,∀t,ca.tmps.getD t undef=y t:=⟨_,fun _=>rfl⟩;simp only [UX] at jM;clear UX;exact adb
 ):p:=h
theorem Z9 (h:p:=by
 generalize ca.tmps.getD 53 undef=x53 at jM;generalize ca.tmps.getD 54 undef=x54 at jM;generalize ca.tmps.getD 55 undef=x55 at jM;generalize ca.tmps.getD 56 undef=x56 at jM;generalize ca.tmps.getD 57 undef=x57 at jM;generalize ca.tmps.getD 58 undef=x58 at jM;generalize ca.tmps.getD 59 undef=x59 at jM;generalize ca.tmps.getD 60 undef=x60 at jM;generalize ca.tmps.getD 61 undef=x61 at jM;generalize ca.tmps.getD 62 undef=x62 at jM;generalize ca.tmps.getD 63 undef=x63 at jM
 first
 |(have:=Sl;exact ZM)
 |(have:=SA;exact ZN)
 ):p:=h
theorem adt (h:p:=by
 intro ca w5 f hI hall hd hs dB fM;have adk:=hall 12 ay;obtain⟨m1,m2⟩:=hI.mid adk;have h52:ca.tmps.getD 52 undef=.pointer (some ⟨FB,0,none⟩):=dB 0 _ 52 rfl rfl (fun z=>by unfold uH;exact Bool.and_false _);have jM:=Am.jN hd hs fM;simp only [List.foldl_cons,List.foldl_nil,h52] at jM;generalize ca.tmps.getD 64 undef=q4' at*
 first
 |(have:=SB;exact Z8)
 |(have:=TG;exact Z9)
 ):p:=h
theorem aaa (h:p:=by
 have u2:u<(n:Int):=aa;clear hu AZ hdu YN;go_wp2;go_region;go_wp2;have aab:(if m+1<du+1 then du+1 else m+1)=max m du+1:=by split<;>omega
 have uE:wrap64 (du+1)=du+1:=IntWalk.wrap64_in _ (by have:=Hdu.out;omega);rw [uE,aab,drew_grow];refine⟨⟨j+1,mM.set k (max m du+1),_,by omega,by go_num,by rw [List.map_set],max m du, ?_, ?_, ?_, ?_⟩, ?_⟩
 ·rw [qh.out,List.set_append_right _ _ (by rw [EZ.out];exact Nat.le_refl _),EZ.out];simp
 ·have:=Hdu.out;omega
 ·have:=Hdu.out;omega
 ·rw [←Sq.out];exact WO.out
 ·simp [intOf];omega
 ):p:=h
theorem aac (h:p:=by
 have u2:u<(n:Int)+1:=aa;clear hu AZ hdu YN;go_wp2;go_region;go_wp2;have aab:(if m<du then du else m)=max m du:=by split<;>omega
 rw [aab,drew_grow];refine⟨⟨j+1,mM.set k (max m du),_,by omega,by go_num,by rw [List.map_set],max m du, ?_, ?_, ?_, ?_⟩, ?_⟩
 ·rw [qh.out,List.set_append_right _ _ (by rw [EZ.out];exact Nat.le_refl _),EZ.out];simp
 ·have:=Hdu.out;omega
 ·have:=Hdu.out;omega
 ·rw [←Sq.out];exact WO.out
 ·simp [intOf];omega
 ):p:=h
theorem adE (h:p:=by
 have hr2:mM[u.toNat]?=some (ds.getD u.toNat 0):=by
  exact Y7
 have hdu:0≤ds.getD u.toNat 0∧ds.getD u.toNat 0≤(k:Int):=by
  exact Y4
 have AZ:=YN.out m;rw [if_pos (by have:=I7.out;omega)] at AZ;generalize ds.getD u.toNat 0=du at*;have Sq:=hid AZ;have Hdu:=hid hdu;have u0:=hu.1;have u1:=hu.2
 first
 |(have:=TJ;exact aaa)
 |(have:=TK;exact aac)
 ):p:=h
theorem bP (h:p:=by repeat (first|exact Below.refl _ _|refine bG ?_ _|refine bI ?_ _ _|refine bA ?_ _|refine bD ?_|refine bN ?_ _)):p:=h
theorem aa (h:p:=by omega):p:=h
theorem cH (h:p:=by repeat (first|exact Below.refl _ _|refine bG ?_ _|refine bI ?_ _ _|refine bA ?_ _)):p:=h
theorem ak (h:p:=by kernel_rfl):p:=h
theorem sY (h:p:=by repeat (first|exact Below.refl _ _|refine bG ?_ _|refine bA ?_ _|refine bD ?_|refine bN ?_ _)):p:=h
theorem Ao (h:p:=by repeat (first|exact Below.refl _ _|exact HX.out|refine bG ?_ _|refine bI ?_ _ _|refine bA ?_ _|refine bD ?_|refine bN ?_ _)):p:=h
theorem ay (h:p:=by decide):p:=h
theorem alP (h:p:=by rw [ByteArray.toList_eq];exact bJ h (by decide)):p:=h
theorem alQ (h:p:=by rw [←fN,List.getD,List.getElem?_eq_getElem (by omega)];rfl):p:=h
theorem yg (h:p:=by repeat (first|exact Below.refl _ _|exact HB.out|refine bG ?_ _|refine bI ?_ _ _|refine bA ?_ _)):p:=h
theorem aV (h:p:=by simp;omega):p:=h
theorem ai (h:p:=by simp):p:=h
theorem iM (h:p:=by simp [ByteArray.getElem_eq_getElem_data]):p:=h
theorem dG (h:p:=by have:=HL.out;omega):p:=h
theorem mj (h:p:=by unfold aF;rw [Int.toNat_natCast,eO]):p:=h
theorem Ok (h:p:=by repeat (first|exact Below.refl _ _|refine bN ?_ _|refine bD ?_|refine bG ?_ _|refine bI ?_ _ _|refine bA ?_ _)):p:=h
theorem cZ (h:p:=by decide+kernel):p:=h
theorem aiL (h:p:=by rw [ByteArray.toList_eq];exact mG h (by decide)):p:=h
theorem xO (h:p:=by rw [eH hA (fun _=>rfl) (fun _=>rfl)];exact hR):p:=h
theorem iJ (h:p:=by have:=Hq.out;omega):p:=h
theorem FR (h:p:=by rw [List.getD,List.getElem?_eq_getElem h0];exact List.getElem_mem h0):p:=h
theorem CF (h:p:=by have:=congrArg List.length hd;simp at this;omega):p:=h
theorem pP (h:p:=by rw [List.length_take];omega):p:=h
theorem Gg (h:p:=by unfold Ints;rw [List.length_append,List.map_append];exact g2):p:=h
theorem qc (h:p:=by rw [←hp];exact hF.cell 0):p:=h
theorem Gj (h:p:=by rw [List.take_add_one,List.getElem?_eq_getElem lB,hz];rfl):p:=h
theorem aiM (h:p:=by rw [hrow2,List.getElem?_append_right (by omega)];simp [lH]):p:=h
theorem kT (h:p:=by unfold maxLen;omega):p:=h
theorem GI (h:p:=by unfold sr;rw [if_neg (by decide)];exact Below.refl _ _):p:=h
theorem BQ (h:p:=by simp [List.getD,List.getElem?_eq_getElem lB]):p:=h
theorem KA (h:p:=by rw [List.getD,List.getElem?_eq_getElem fS];exact List.getElem_mem fS):p:=h
theorem CG (h:p:=by rw [List.mem_zipIdx_iff_getElem?];exact ho):p:=h
theorem jq (h:p:=by rw [h1];decide):p:=h
theorem jr (h:p:=by rw [h0];decide):p:=h
theorem jd (h:p:=by simpa using ha):p:=h
theorem jY (h:p:=by rw [h2];decide):p:=h
theorem si (h:p:=by simp [World.cell?,hqR]):p:=h
theorem nT (h:p:=by rw [bh];decide):p:=h
theorem qd (h:p:=by have:=hF.lt;omega):p:=h
theorem kX (h:p:=by rw [h8];decide):p:=h
theorem kY (h:p:=by rw [h7];decide):p:=h
theorem kZ (h:p:=by rw [h6];decide):p:=h
theorem ld (h:p:=by rw [h5];decide):p:=h
theorem lf (h:p:=by rw [h4];decide):p:=h
theorem lg (h:p:=by rw [h3];decide):p:=h
theorem lp (h:p:=by rw [h9];decide):p:=h
theorem Bz (h:p:=by rw [hdec,Nat.add_sub_cancel_left]):p:=h
theorem xo (h:p:=by rw [ho] at js;exact js):p:=h
theorem xF (h:p:=by simp [World.cell?,hI.heap]):p:=h
theorem kV (h:p:=by simpa using h):p:=h
theorem lS (h:p:=by simpa using h2):p:=h
theorem MM (h:p:=by rw [List.getD,List.getElem?_eq_getElem acT];rfl):p:=h
theorem Co (h:p:=by rw [←hp];exact jU.cell 0):p:=h
theorem Nt (h:p:=by simpa [Array.getElem?_setIfInBounds,hne] using hj):p:=h
theorem KE (h:p:=by rw [hS1];exact fun w h=>Jc z z0 z1 w h):p:=h
theorem mP (h:p:=by rw [z];omega):p:=h
theorem Ma (h:p:=by rw [hA k (by rw [l2.T k e5,Bool.true_or]),e1]):p:=h
theorem M3 (h:p:=by simp [List.getD,List.getElem?_eq_getElem oN]):p:=h
theorem M7 (h:p:=by simp [List.getD,List.getElem?_eq_getElem rA]):p:=h
theorem Mo (h:p:=by simp [List.getD,List.getElem?_eq_getElem qA]):p:=h
theorem yb (h:p:=by simp [World.cell?,tP]):p:=h
theorem pR (h:p:=by rw [he];decide):p:=h
theorem Mn (h:p:=by simp;have:=Hq.out;have:=Hr.out;omega):p:=h
theorem OE (h:p:=by rw [List.mem_zipIdx_iff_getElem?];exact hp):p:=h
theorem GJ (h:p:=by rw [←List.drop_drop,hd];rfl):p:=h
theorem Gh (h:p:=by simp [World.frozen?,hI.heap]):p:=h
theorem Ba (h:p:=by simp [World.cell?,FT]):p:=h
theorem ud (h:p:=by simpa using hl):p:=h
theorem uV (h:p:=by simpa using h3):p:=h
end Go
