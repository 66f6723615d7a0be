/- A part of the proof. Conditions: none. -/
import Derived.Tactics2
import Derived.TacticsIn
import Derived.OwnWalkIn
import Derived.KernelRfl
import Derived.IntWalk
import Derived.BigQuiet
import Derived.LoopTactic
import Derived.RegionTactic
import Derived.Deep.QuietTactic
import Derived.Maps.OwnSet
import Derived.StillTailTactics
set_option linter.unusedVariables false
set_option linter.unusedSimpArgs false
set_option maxRecDepth 100000
set_option maxHeartbeats 8000000
namespace Go
variable {p:Prop}
theorem amz (h:p:=by
 have Gs:cY ns s n fn=kD (bB {s0 with many:=s0.many.set fn (m+1)} n 2) n fn:=by
  rw [Gt,ec,if_pos Kc,eb]
 clear eb ec Gt;go_wp2_with (go_at_call 68;refine(yD H3x.out _ _).mono ?_);intro e w3 hh
 first|(subst hh;intro Xl)|(obtain⟨rfl,Xl⟩:=hh)
 have ZX:=TE.out.trans Xl;obtain⟨u0,u1,u2,u3,u4,u5,h3⟩:=ZX.Ak;obtain⟨t,ht⟩:∃t:Fs,t=bB {s0 with many:=s0.many.set fn (m+1)} n 2:=⟨_,rfl⟩;rw [←ht] at h3 ZX;obtain⟨z1,z2,_,_,z5,_⟩:=eR {s0 with many:=s0.many.set fn (m+1)} n 2;rw [←ht] at z1 z2 z5;have ht1:t.uses.length=ns.length:=by rw [z2];exact ahO
 have ht2:t.vars.length≤100000:=by rw [z1];exact ahP
 have ht3:t.seen.length≤100000:=by rw [z5];exact ahQ
 have jc:Hid (cY ns s n fn={t with uses:=t.uses.set n (t.vars.length:Int),seen:=t.seen++[(t.vars.length:Int)],vars:=t.vars++[⟨n,fn,false,false⟩]}):=hid (by rw [Gs,←ht];unfold kD;rw [Int.toNat_natCast]);clear Gs ht z1 z2 z5 Xl TE H3x;go_wp2;obtain⟨g1,cu,rfl,hg1,cu1,fu1,Tu,Tv⟩:=ints_at (h3.rows.rows 0 _ _ rfl rfl) (show n<t.uses.length by omega);have d1:=h3.cell 1;have d2:=h3.cell 2;simp only [List.getElem?_toArray,List.getElem?_cons_succ,List.getElem?_cons_zero] at d1 d2;have iZ:¬FB=g1:=af;have hF2:¬g1=FB:=af;have Xe:(n:Int)<(t.uses.length:Int):=af;obtain⟨av,cv,hv0⟩:∃av cv,u0=.slice av t.vars.length cv:=by
  exact ad6
 subst hv0;have H3:=hid h3;have HP3:=hid ZX;clear h3 ZX;go_region;obtain⟨w4,hw4⟩:∃w4,w4=(w3.setCell ⟨g1,n,none⟩ (.int .i64 (t.vars.length:Int))).drew:=⟨_,rfl⟩;rw [←hw4];have FI:n<t.uses.length:=af;have h4:cC FB p c ns.length w4 {t with uses:=t.uses.set n (t.vars.length:Int)} (.slice av t.vars.length cv) (.slice (some ⟨g1,0,none⟩) t.uses.length cu) u2 u3 u4 u5:=by rw [hw4];exact(H3.out.iR rfl FI _).later (Below.refl _ _).drew
 have hP4:FP FB p c ns.length {t with uses:=t.uses.set n (t.vars.length:Int)} W w4:=HP3.out.trans (h4.fp (by rw [hw4];exact((Below.refl FB w3).setCell (p:=⟨g1,n,none⟩) (show FB≤g1 by omega) _).drew) (by rw [hw4];exact(kR _ (nL (H3.out.rows.rows 0 _ _ rfl rfl))).trans (dH (Below.refl _ _).drew)) (by rw [hw4];simp));have N8:{t with uses:=t.uses.set n (t.vars.length:Int)}.vars=t.vars∧{t with uses:=t.uses.set n (t.vars.length:Int)}.seen=t.seen:=⟨rfl,rfl⟩;obtain⟨y,hy⟩:∃y:Fs,y={t with uses:=t.uses.set n (t.vars.length:Int)}:=⟨_,rfl⟩;rw [←hy] at h4 hP4 N8;rw [←N8.1] at h4;rw [←N8.1] at ht2;rw [←N8.2] at ht3;have Hy:=hid hy;have HT9:=hid N8;clear N8;generalize (Value.slice (some ⟨g1,0,none⟩) t.uses.length cu)=u1 at*;generalize yz:(Value.slice av y.vars.length cv)=q0 at*;have DA:FB≤w4.heap.size:=by have:=h4.lt;omega
 have AV:∀ca,64<ca.tmps.size→uu FB p c ns.length y q0 u1 u2 u3 u4 u5 w4 (fun _=>false) ca w4.drew:=fun _ bf=>⟨(Below.refl _ _).drew,dH (Below.refl _ _).drew,Nat.le_refl _,h4.heap,fun _=>h4.later (Below.refl _ _).drew,bf,fun h=>nomatch h⟩
 have H4:=hid h4;have HP4:=hid hP4;clear h4 hP4 hw4 hy H3 HP3 d1 d2 cu1 fu1;go_wp2;refine wp_region_any ai ?_;refine Am.cJ _ 15 rfl ai ?_;simp only [List.take_succ_cons,List.take_zero];refine Am.cJ _ 14 rfl ai ?_;simp only [List.take_succ_cons,List.take_zero];refine Am.cJ _ 13 rfl ai ?_;simp only [List.take_succ_cons,List.take_zero];refine Am.eT (Φ:=Ke FB q0 u4 (y.vars.length:Int)) (I:=uu FB p c ns.length y q0 u1 u2 u3 u4 u5 w4) (S:=wM) ai ai zC (fun z=>?_) vF ?_ ?_ _ (AV _ (Nat.le_of_ble_eq_true rfl))
 ·exact ad7
 ·exact amC
 ·have ZY:=trivial;exact amD
 ):p:=h
theorem alT (h:p:=by
 have ZZ:=trivial;exact N9
 ):p:=h
theorem alW (h:p:=by
 have Z0:=trivial;exact N9
 ):p:=h
theorem als (h:p:=by
 have Z1:=trivial;exact N9
 ):p:=h
theorem amE (h:p:=by
 exact amC
 ):p:=h
theorem amF (h:p:=by
 refine⟨_,rfl, ?_⟩;refine Am.eJ (Φ:=L5) (I:=Am.Oa 6 (fun _ _ w=>w=w3)) ai ai Gu ?_ ?_ _ _ _ _ T.size' T.count' ⟨hdone,rfl⟩ (T.put_defers _) (T.zD _) T.DL (T.DY ai ai rfl ?_) (T.DZ _)
 rotate_left 2
 ·exact ad8
 ·intro kq o kL w4 ad9 xO T2 hK;have ho:=T2.op;have ah:=T2.look;have hfn:∀f,kL.eval (.func f)=.func (.func f) #[] #[]:=fun _=>rfl
  have hcs:∀v,kL.eval (.const v)=v:=fun _=>rfl
  rcases kq with _|_|_|_|_|_|_|_|_|_|_|_|_|_|_|_|_|kq
  ·cases ho;have h9:=T2.inv.1 0 aj;exact mq
  ·cases ho;have h9:=T2.inv.1 1 aj;exact mq
  ·cases ho;have h9:=T2.inv.1 2 aj;exact mq
  ·cases ho;have h9:=T2.inv.1 3 aj;exact mq
  ·cases ho;have h9:=T2.inv.1 4 aj;exact mq
  ·cases ho;have h9:=T2.inv.1 5 aj;exact mq
  ·cases ho;have h9:=T2.inv.1 6 aj;exact mq
  ·cases ho;have h75:kL.tmps.getD 75 undef=.bool false:=Am.aV (j:=6) ah ai rfl rfl;replace h75:=Am.aS h75;refine Am.bX Am.dm (Am.aD rfl rfl (Am.aU (v:=.bool false) ?_ (hK _ _ (T2.inv.keep T2.inv.2) rfl)));generalize kL.eval=ev at*;simp [go_sem,execOp,hfn,hcs,h75]
  ·exact zE
  ·exact zE
  ·exact zE
  ·exact zE
  ·exact zE
  ·exact zE
  ·exact zE
  ·cases ho;have h76:kL.tmps.getD 76 undef=.bool false:=Am.aV (j:=7) ah ai rfl rfl;replace h76:=Am.aS h76;refine Am.bX Am.dm (Am.aD rfl rfl (Am.aU (v:=.bool false) ?_ (hK _ _ (T2.inv.keep T2.inv.2) rfl)));generalize kL.eval=ev at*;simp [go_sem,execOp,hfn,hcs,h76]
  ·cases ho;have h84:kL.tmps.getD 84 undef=.bool false:=Am.aV (j:=15) ah ai rfl rfl;replace h84:=Am.aS h84;refine Am.bX Am.dm (Am.aD rfl rfl (Am.aU (v:=.bool false) ?_ (hK _ _ (T2.inv.keep T2.inv.2) rfl)));generalize kL.eval=ev at*;simp [go_sem,execOp,hfn,hcs,h84]
  ·simp at ho
 ·intro ca w9 f hI hall hd hs aT bp;have h7:ca.tmps.getD 7 undef=.bool false:=aT 16 _ 7 rfl rfl;have hw9:w9=w3:=hI.2;subst hw9;have bf:=Am.bC hd hs bp;simp only [List.foldl_cons,List.foldl_nil,h7] at bf;obtain⟨yf,jL⟩:∃y:Nat→Value,∀t,ca.tmps.getD t undef=y t:=⟨_,fun _=>rfl⟩;simp only [jL] at bf;clear jL;clear hI hall hd hs aT bp h7;subst bf;simp only [List.setIfInBounds_toArray,List.set_cons_succ,List.set_cons_zero];refine tV _ _ ?_;gi_wp2;refine bodyPost_ret (results_tmp rfl _ _ _) rfl ?_;exact .inr ⟨rfl,hx⟩
 ):p:=h
theorem ak4 (h:p:=by
 have mF:Hid (∀w,Calls Tryz.prog 117 #[.string s] w fun e w'=>e=.returned (pN (gF s.data.toList))∧Below w.heap.size w w'):=hid (fun w=>pO s af w);have HL:Hid (∀w',Below w.heap.size w w'→bZ w'):=hid fun w' h=>hl.later h
 clear hl h0;cases ho:gF s.data.toList with
 |none=>
  rw [ho] at mF;have fK:Hid (∀w,Calls Tryz.prog 117 #[.string s] w fun e w'=>e=.returned (.tuple #[.int .i64 0,.bool false])∧Below w.heap.size w w'):=mF;have Hr:Hid (fc false s.data.toList=false):=hid (by unfold fc;rw [ho]);exact acN
 |some n=>
  have fK:Hid (∀w,Calls Tryz.prog 117 #[.string s] w fun e w'=>e=.returned (.tuple #[.int .i64 (wrap64 n),.bool true])∧Below w.heap.size w w'):=Bk;have hr:fc false s.data.toList=(decide (Lib.itoa (wrap64 n)=s.data.toList) && !(false && decide (wrap64 n=0))):=by unfold fc;rw [ho]
  have z0:=mZ (n:Int);have z1:=kN (n:Int);clear mF ho;generalize wrap64 (n:Int)=z at*;obtain⟨S1,hS1⟩:∃S:ByteArray,S=⟨(Lib.itoa z).toArray⟩:=⟨_,rfl⟩;have H1:Hid (∀w,bZ w→Calls Tryz.prog 107 #[.int .i64 z] w fun e w'=>e=.returned (.string S1)∧Below w.heap.size w w'):=hid PC;have e1:decide (Lib.itoa z=s.data.toList)=(S1.toList==s.toList):=by
   rw [ByteArray.toList_eq,ByteArray.toList_eq,hS1];exact(Bool.beq_eq_decide_eq _ _).symm
  have e2:decide (z=0)=(z==0):=(Bool.beq_eq_decide_eq _ _).symm;rw [e1,e2] at hr;have Hr:=hid hr;clear hr hS1 e1 e2 z0 z1;cases q1:(S1.toList==s.toList) with
  |false=>
   have q2:(S1.toList !=s.toList)=true:=by rw [bne,q1];rfl
   have vU:Hid (fc false s.data.toList=false):=hid (by rw [Hr.out,q1,Bool.false_and]);clear Hr;go_enter Tryz.func116,Tryz.ntmps116;go_wp2_with (first
    |(go_at_call 117;((with_reducible refine(fK.out _).mono ?_));rintro e w' ⟨rfl,hb⟩;obtain⟨g1,rfl⟩:=aC hb;clear hb)
    |(go_at_call 107;((with_reducible refine(H1.out _ ?_).mono ?_));rotate_left;rintro e w' ⟨rfl,hb⟩;obtain⟨g2,rfl⟩:=aC hb;clear hb))
   all_goals first
    |(go_ret2;exact⟨⟨_,by rw [vU.out];rfl⟩,eK⟩)
    |exact HL.out _ eK
  |true=>
   have q2:(S1.toList !=s.toList)=false:=by rw [bne,q1];rfl
   cases q3:(z==0) with
   |true=>
    exact amG
   |false=>
    exact amG
 ):p:=h
theorem akT (h:p:=by
 intro listed ca w hsz JL hb hd hs Ai aT bp;constructor
 ·intro hnone;have hall:∀i,i<ops.length→listed.getD i false=true:=by
   exact aea
  exact eP ca w hb hd hs (fun j p d hp mS=>aT j p d hp mS (hall j (List.getElem?_eq_some_iff.1 hp).1)) bp
 ·have TF:=trivial;exact SD
 ):p:=h
theorem amH (h:p:=by
 have Ha:=hid ha;have Hv:=hid hv;have dA:=gy (kids.getD 0 0) (by rw [List.getD,List.getElem?_eq_getElem dL];exact List.getElem_mem dL);obtain⟨n0,hz⟩:∃z:Nat,kids.getD 0 0=(z:Int):=⟨(kids.getD 0 0).toNat,by omega⟩;rcases hf with ix|⟨bk,ok,rfl,bO,eA⟩
 ·subst ix;simp at dL
 replace eA:=eA 0 dL;rw [show kids[0]=(n0:Int) by rw [←hz,List.getD,List.getElem?_eq_getElem dL];rfl,Nat.add_zero] at eA;rw [hz] at dA ⊢;have hN2:(N:Int)≤(ns.length:Int):=af;have hL:(ns.length:Int)≤5000:=af;obtain⟨L,CR⟩:∃L,L=ns.length:=⟨_,rfl⟩;unfold LA;simp only;obtain⟨q,hq⟩:∃q,q=kids.length:=⟨_,rfl⟩;rw [←hq] at dL ⊢;have q1:(0:Int)<(q:Int):=af;rw [←CR] at hN2 hL ⊢;have HL:=hid CR;have xR:n0<N:=af;clear ha hv CR gy hq hz hL0 dL dA;go_enter Tryz.func142,Tryz.ntmps142;go_wp2;go_loop [6] (fun nv=>∃k:Nat,nv=.int .i64 k∧k<N∧Hid (∃f,k<f∧Bf ns f k=kX ns n0)) (fun nv=>(intOf nv).toNat)
 case atStart=>exact⟨n0,rfl,xR,n0+1,by omega,by unfold kX;rw [Int.toNat_natCast]⟩
 case round=>
  have Z2:=trivial;exact ak2
 ):p:=h
theorem aec (h:p:=by
 exact amI
 ):p:=h
theorem aed (h:p:=by
 have Z3:=trivial;exact amJ
 ):p:=h
theorem aee (h:p:=by
 intro ca w1 hb hd hs aT bp;have r63:fT W.heap.size w1 (ca.tmps.getD 63 undef) l0:=aT 7 _ 63 rfl rfl;have r71:fT W.heap.size w1 (ca.tmps.getD 71 undef) l1:=aT 15 _ 71 rfl rfl;have bf:=Am.bC hd hs bp;simp only [List.foldl_cons,List.foldl_nil] at bf;obtain⟨yf,jL⟩:∃y:Nat→Value,∀t,ca.tmps.getD t undef=y t:=⟨_,fun _=>rfl⟩;simp only [jL] at bf;clear jL;generalize ca.tmps.getD 63 undef=y63 at bf r63;obtain⟨yf,jL⟩:∃y:Nat→Value,∀t,ca.tmps.getD t undef=y t:=⟨_,fun _=>rfl⟩;simp only [jL] at bf;clear jL;generalize ca.tmps.getD 71 undef=y71 at bf r71;subst bf;simp only [List.setIfInBounds_toArray,List.set_cons_succ,List.set_cons_zero];have rj:=hid (r8.out.trans (hb.mono r8.out.size));clear hb hd hs aT bp;simp only [Am.gI];obtain⟨Yb,m63,d63,e63⟩:∃a m d,y63=.slice a m d:=by
  rcases r63.row.2 with⟨e1,_⟩|⟨g,cap,cur,e1,_⟩
  ·exact⟨_,_,_,e1⟩
  ·exact⟨_,_,_,e1⟩
 have amK:=rj.out.size;have o9:∀k,y63.ownBlock=some k→W.heap.size≤k:=fun k hk=>(r63.row.lt k hk).1
 cases l1 with
 |nil=>
  have e71:=r71.nil rfl;subst e71;have R63:=hid r63;have amL:=hid o9;subst e63;clear r63 r71 o9 zT0 zT1 zT2;refine wpList_append_own_none rfl _ _ 32 rfl W.heap.size 58 iT 2 Tryz.underlying32 hiT _ l0.length (eH l0) rfl R63.out.row rfl ?_;refine wpList_nil ?_
  try simp only [Am.gI]
  go_wp2;go_ret;exact⟨_,rfl,rj.out,by rw [List.append_nil];exact R63.out⟩
 |cons x l1=>
  obtain⟨g7,cp7,ayl,e71,hg7,hh7,hn7,hm7,arN,arO⟩:∃g cap cur,y71=.slice (some ⟨g,0,none⟩) (x::l1).length cap∧W.heap.size≤g∧w1.heap[g]?=some (.cells cur 58 (0,0))∧(x::l1).length≤cap∧cap≤maxLen∧cur.size=cap*2∧cur.toList.take ((x::l1).length*2)=eH (x::l1):=by
   rcases r71.row.2 with⟨e1,e2⟩|⟨g,cap,cur,e1,h⟩
   ·simp at e2
   ·exact⟨g,cap,cur,e1,h⟩
  have Kf:∀j u,(eH (x::l1))[j]?=some u→w1.cell? ((⟨g7,0,none⟩:Addr).add j)=some u:=by
   rw [e71] at r71;exact fun j u hj=>r71.row.cells (g:=g7) rfl j u hj
  have F0:(eH (x::l1)).length=(x::l1).length*2:=N2 _;have uM:∀u∈eH (x::l1),u.oneCell'=true:=fun u hu=>by
   obtain⟨y,rfl⟩:=Ka _ u hu;rfl
  have dL:0<(x::l1).length:=ak;have ahX:eH (l0++x::l1)=eH l0++eH (x::l1):=Ch _ _;have TG:(l0++x::l1).length=l0.length+(x::l1).length:=List.length_append;obtain⟨news,hnews⟩:∃news,news=x::l1:=⟨_,rfl⟩;have amM:=hid hnews;rw [←hnews] at Kf F0 uM dL ahX TG hb1 e71 ⊢;have arP:=hid ahX;have amN:=hid TG;have R63:=hid r63;have amL:=hid o9;have Hc7:=hid Kf;have Ho7:=hid uM;have tu:l0++news≠[]:=by rw [hnews];simp
  have NC:=hid tu;obtain⟨nn,ahY⟩:∃nn,nn=news.length:=⟨_,rfl⟩;rw [←ahY] at F0 dL hb1 e71;have arQ:=hid ahY;subst e71;rw [e63];have amO:=hid e63;clear r63 r71 o9 Kf uM ahX TG hnews tu ahY hh7 arO arN hm7 hn7 e63;refine cT _ rfl _ _ 32 rfl W.heap.size 58 iT _ 2 16 Tryz.underlying32 hiT zT0 zT1 zT2 rfl aj (.slice Yb m63 d63) l0.length (eH l0) rfl (by rw [←amO.out];exact R63.out.row) ⟨g7,0,none⟩ nn cp7 dL (eH news) rfl F0 Hc7.out Ho7.out lf af amK ?_;intro v' w2 hrow hgr vp;obtain⟨av,nv,cv,rfl⟩:∃a n c,v'=.slice a n c:=by
   rcases hrow.2 with⟨e1,_⟩|⟨g,cap,cur,e1,_⟩
   ·exact⟨_,_,_,e1⟩
   ·exact⟨_,_,_,e1⟩
  have Ay:=hid (show Below W.heap.size W w2∧fT W.heap.size w2 (.slice av nv cv) (l0++news) from⟨rj.out.grown hgr amK (fun k hk=>amL.out k (by rw [amO.out];exact hk)),⟨by rw [amN.out,arP.out,←arQ.out];exact hrow,fun h=>absurd h NC.out⟩⟩);clear hrow hgr vp;refine wpList_nil ?_
  try simp only [Am.gI]
  go_wp2;go_ret;exact⟨.slice av nv cv,rfl,by rw [←amM.out];exact Ay.out⟩
 ):p:=h
theorem aef (h:p:=by
 have Z4:=trivial;exact amJ
 ):p:=h
theorem adL (h:p:=by
 rw [if_neg (fun h=>hs (Option.some.inj h))] at wD tu;have hs1:(((f[pos+1]).toNat:Int)==42)=false:=by
  cases e:(((f[pos+1]).toNat:Int)==42) with
  |false=>rfl
  |true=>exact absurd (UInt8.toNat_inj.1 (by have:=eq_of_beq e;show(f[pos+1]).toNat=42;omega)) hs
 have Hru:=hid wD;have NC:=hid tu;obtain⟨c9,hc9⟩:∃c9,(f[pos+1]).toNat=c9:=⟨_,rfl⟩;rw [hc9] at hs1;clear wD tu hs;exact amP
 ):p:=h
theorem aeg (h:p:=by
 have r0:W1.cell? ⟨W.heap.size,0,none⟩=some (.int .i64 0):=mz;have r1:W1.cell? ⟨W.heap.size,1,none⟩=some (.int .i64 0):=mz;have f0:W1.frozen? ⟨W.heap.size,0,none⟩=false:=mz;have f1:W1.frozen? ⟨W.heap.size,1,none⟩=false:=mz;have rb:W1.heap[W.heap.size]?=some (.cells #[.int .i64 0,.int .i64 0] 58 (0,0)):=by
  rw [hW1];exact(Below.heap_alloc _ _ _ bt).trans ((Below.heap_alloc _ _ _ ak).trans (heap_alloc_new _ _))
 have hb1:Below W.heap.size W W1:=by rw [hW1];exact p6
 have wN:W.heap.size+1+1<W1.heap.size:=r6;have hl0:W.heap.size<W1.heap.size:=af;have r7:=(hb1.cell (p:=⟨bk,ok,none⟩) lg).trans kkz;have hx5:=(hb1.cell (p:=⟨tb,5,none⟩) htl).trans x5;have BH:(0:Int)<(dx.length:Int):=af;have yX:¬dx.length=0:=af;have ays:bk<W1.heap.size:=af;obtain⟨cv,hcv,ah⟩:=fe.look (HM.out.kept (bK hb1) ak) (t:=yt) (by have:=ZH.out;unfold maxLen;omega);rw [alh] at hcv ah;have pn:=hid hb1;have Hcv:=hid hcv;generalize hrz:fL ns s.vars s.uses z=rz at*;generalize Ra:gD yt.toList=kn at*;generalize hQ:(dx.length:Nat)=q at*;clear hW1 hzc hcv hb1 Gk HR Hz MO hrz Ra ke kkz x5 Ha hQ Xg amn Iq;by_cases C7:kn=0
 ·rw [if_pos C7] at ah;have hr:R=(-1,0):=by rw [pV.out,if_neg (by simp [C7])]
  have Hr:=hid hr;clear pV C7 Hcv hr;simp only [Option.isSome_none] at ah;go_wp2;go_quiet (fail);go_wp2_with (go_at_call 125;((with_reducible refine(Hzc.out _ (by repeat (first|exact Below.refl _ _|exact pn.out|refine bG ?_ _|refine bA ?_ _|refine bD ?_|refine bN ?_ _))).mono ?_));rintro e w' ⟨rfl,hb⟩;obtain⟨G1,rfl⟩:=aC hb;clear hb);obtain⟨q0,q1⟩:=Gj (a:=.int .i64 rz) (b:=.int .i64 cv) rb G1;refine bodyPost_ret (v:=.tuple #[.agg #[.int .i64 rz,.int .i64 cv],.bool false]) (by simp [results,Tryz.f126,go_sem,q0,q1]) rfl ?_;refine⟨rz,cv,_,rfl,TH, ?_, ?_⟩
  ·rw [HE.out,Hr.out];rfl
  ·intro hv;cases hv
 ·rw [if_neg C7] at ah;have hcv:cv=kn:=Hcv.out kn (by rw [if_neg C7]);have hr:R=(rz,kn):=by rw [pV.out,if_pos C7]
  have Hr:=hid hr;subst hcv;clear pV Hcv hr;simp only [Option.isSome_some] at ah;go_wp2;go_quiet (fail);go_wp2_with (go_at_call 125;((with_reducible refine(Hzc.out _ (by repeat (first|exact Below.refl _ _|exact pn.out|refine bG ?_ _|refine bA ?_ _|refine bD ?_|refine bN ?_ _))).mono ?_));rintro e w' ⟨rfl,hb⟩;obtain⟨G1,rfl⟩:=aC hb;clear hb);obtain⟨q0,q1⟩:=Gj (a:=.int .i64 rz) (b:=.int .i64 cv) rb G1;refine bodyPost_ret (v:=.tuple #[.agg #[.int .i64 rz,.int .i64 cv],.bool (decide (0≤rz))]) (by simp [results,Tryz.f126,go_sem,q0,q1]) rfl ?_;refine⟨rz,cv,_,rfl,TH, ?_, ?_⟩
  ·rw [HE.out,Hr.out]
  ·intro hv;rw [HE.out,Hr.out];exact⟨rfl,rfl⟩
 ):p:=h
theorem adM (h:p:=by
 rw [dif_neg BJ,if_neg ak] at wD tu;have l7:¬(pos:Int)+1<(f.size:Int):=af;have Hru:=hid wD;have NC:=hid tu;clear wD tu;exact amP
 ):p:=h
theorem LC (h:p:=by
 intro kq o ca w1 ho hb ah K hK;have hc2:w1.cell? ⟨W.heap.size+1,2,none⟩=some (.slice kp j aP):=(hb.cell (p:=⟨_,2,none⟩) ak).trans (by simp [go_sem]);have hc0:w1.cell? ⟨W.heap.size+1,0,none⟩=some (.int .i64 k):=(hb.cell (p:=⟨_,0,none⟩) ak).trans (by simp [go_sem]);have hcf:w1.cell? ⟨W.heap.size,k,none⟩=some (str fo):=(hb.cell (p:=⟨_,k,none⟩) bt).trans (by simp [go_sem,Xi]);have arR:(0:Int)≤(k:Int):=af;have hfn:∀f,ca.eval (.func f)=.func (.func f) #[] #[]:=fun _=>rfl
 have hcs:∀v,ca.eval (.const v)=v:=fun _=>rfl
 rcases kq with _|_|_|_|_|_|_|kq
 ·exact L6
 ·exact TI
 ·cases ho;have aQ:=Am.lk 56 1 ah fun _=>rfl
  refine Am.rv rfl rfl (hK _ _ (Below.refl _ _) rfl) ?_;generalize ca.eval=ev at*;simp [go_sem,execOp,hfn,hcs,aQ,hc2]
 ·exact TI
 ·cases ho;have aQ:=Am.lk 58 3 ah fun _=>rfl
  exact ad3
 ·cases ho;have aQ:=Am.lo 7 ah rfl;have nV:=Am.lk 59 4 ah fun _=>rfl
  refine Am.rv rfl rfl (hK _ _ (Below.refl _ _) rfl) ?_;generalize ca.eval=ev at*;simp [go_sem,execOp,hfn,hcs,aQ,nV,ahj,arR]
 ·cases ho;have aQ:=Am.lk 60 5 ah fun _=>rfl
  refine Am.rv rfl rfl (hK _ _ (Below.refl _ _) rfl) ?_;generalize ca.eval=ev at*;simp [go_sem,execOp,hfn,hcs,aQ,hcf]
 ·simp at ho
 ):p:=h
theorem ad0 (h:p:=by
 have hr:R=(-1,0):=by rw [Gk,if_neg g2]
 have Hr:=hid hr;clear hr Gk HR Hz;have hcs:¬xk=21∨(xk=21∧¬xt.toList=oJ)∨(xk=21∧xt.toList=oJ∧¬yk=16):=by
  by_cases e1:xk=21
  ·by_cases e2:xt.toList=oJ
   ·exact .inr (.inr ⟨e1,e2,fun e3=>g2 ⟨⟨e1,e2⟩,e3⟩⟩)
   ·exact .inr (.inl ⟨e1,e2⟩)
  ·exact .inl e1
 clear g2 Iq;rcases hcs with e1|⟨rfl,e2⟩|⟨rfl,e2,e3⟩
 ·have ayt:(xk==21)=false:=by simpa using e1
  clear e1;exact TJ
 ·have xx:(xt.toList==[116,121,112,101])=false:=by
   cases h:(xt.toList==[116,121,112,101]) with
   |false=>rfl
   |true=>exact absurd (eq_of_beq h) e2
  clear e2;exact TJ
 ·have xx:(xt.toList==[116,121,112,101])=true:=by rw [e2];rfl
  have ayu:(yk==16)=false:=by simpa using e3
  clear e2 e3;exact TJ
 ):p:=h
theorem amQ (h:p:=by
 have sA:aK B W ((W.alloc (.map #[] 0)).alloc (.cells #[.map (some W.heap.size)] 119)) (aJ FB mm aB v0 v1 v2 v3 v4) (fun g=>aJ FB mm aB v0 v1 v2 v3 v4 g∨g=W.heap.size):=⟨IE.mono af,fun g hg _=>IE.block g hg,fun g h=>h.elim .inl (fun e=>.inr af)⟩;have sB:aK B ((W.alloc (.map #[] 0)).alloc (.cells #[.map (some W.heap.size)] 119)) W1 (fun g=>aJ FB mm aB v0 v1 v2 v3 v4 g∨g=W.heap.size) (fun g=>(aJ FB mm aB v0 v1 v2 v3 v4 g∨g=W.heap.size)∨v'.ownBlock=some g):=by
  refine aK.grown L8 bt (fun k e=>⟨(h7.dr (g:=k) (.inr (.inr (.inr (.inr (.inr (.inr (.inr e)))))))).1,.inl (.inr (.inr (.inr (.inr (.inr (.inr (.inr e)))))))⟩) (fun g h=>?_);rcases h with h|h
  ·exact .inl h
  ·have:=k3;rw [h] at this;rcases this with e|e
   ·exact .inl (.inl (.inr (.inr (.inr (.inr (.inr (.inr (.inr (by rw [Hsv.out];exact e.symm)))))))))
   ·cases e;exact .inr ak
 have sC:aK B W1 (W1.setCell ⟨FB,5,none⟩ v') (fun g=>(aJ FB mm aB v0 v1 v2 v3 v4 g∨g=W.heap.size)∨v'.ownBlock=some g) (aJ FB mm (aB++[W.heap.size]) v0 v1 v2 v3 v'):=by
  refine aK.grown (dY _ FB 5 _) (by have:=k2.size;simp at this;omega) (fun k e=>by cases e;exact⟨fR,.inl (.inl (.inl rfl))⟩) (fun g h=>.inl ?_);rcases h with h|h|h|h|h|h|h|h
  ·exact .inl (.inl (.inl h))
  ·exact .inl (.inl (.inr (.inl h)))
  ·rcases List.mem_append.1 h with h|h
   ·exact .inl (.inl (.inr (.inr (.inl h))))
   ·simp at h;exact .inl (.inr h)
  ·exact .inl (.inl (.inr (.inr (.inr (.inl h)))))
  ·exact .inl (.inl (.inr (.inr (.inr (.inr (.inl h))))))
  ·exact .inl (.inl (.inr (.inr (.inr (.inr (.inr (.inl h)))))))
  ·exact .inl (.inl (.inr (.inr (.inr (.inr (.inr (.inr (.inl h))))))))
  ·exact .inr h
 exact sA.trans (sB.trans sC)
 ):p:=h
theorem L9 (h:p:=by
 intro s hs kp nk kc bE w hl;show Calls _ _ _ _ fun e w'=>e=.returned (.bool (dR s.data.toList && decide (bn s.data.toList<0)))∧Below w.heap.size w w'
 have H1:Hid (∀w',Below w.heap.size w w'→Calls Tryz.prog 134 #[.string s] w' fun e w2=>e=.returned (.bool (dR s.data.toList))∧Below w'.heap.size w' w2):=hid fun w' h=>yl s af w' (hl.later h)
 have H2:Hid (∀w',Below w.heap.size w w'→Calls Tryz.prog 181 #[.string s] w' fun e w2=>e=.returned (.int .i64 (bn s.data.toList))∧Below w'.heap.size w' w2):=hid fun w' h=>by
  have:=sS s w'
  rwa [ByteArray.toList_eq] at this
 clear hl;generalize dR s.data.toList=x at*;generalize bn s.data.toList=n at*;cases x
 all_goals
  go_enter Tryz.func141,Tryz.ntmps141;go_wp2_with (first
   |(go_at_call 134;((with_reducible refine(H1.out _ ?_).mono ?_));rotate_left;rintro e w' ⟨rfl,hb⟩;obtain⟨g1,rfl⟩:=aC hb;clear hb)
   |(go_at_call 181;((with_reducible refine(H2.out _ ?_).mono ?_));rotate_left;rintro e w' ⟨rfl,hb⟩;obtain⟨g1,rfl⟩:=aC hb;clear hb))
  all_goals first
   |(go_ret;exact⟨rfl,dB⟩)
   |exact by repeat (first|exact Below.refl _ _|refine bG ?_ _|refine bI ?_ _ _|refine bA ?_ _|refine bD ?_|refine bN ?_ _)
 ):p:=h
theorem Ma (h:p:=by
 intro s hs kp nk kc bE w hl;show Calls _ _ _ _ fun e w'=>e=.returned (.bool (dR s.data.toList && decide (bn s.data.toList<0)))∧Below w.heap.size w w'
 have H1:Hid (∀w',Below w.heap.size w w'→Calls Tryz.prog 79 #[.string s] w' fun e w2=>e=.returned (.bool (dR s.data.toList))∧Below w'.heap.size w' w2):=hid fun w' h=>Ci s af w'
 have H2:Hid (∀w',Below w.heap.size w w'→Calls Tryz.prog 114 #[.string s] w' fun e w2=>e=.returned (.int .i64 (bn s.data.toList))∧Below w'.heap.size w' w2):=hid fun w' h=>by
  have:=sU s w'
  rwa [ByteArray.toList_eq] at this
 clear hl;generalize dR s.data.toList=x at*;generalize bn s.data.toList=n at*;cases x
 all_goals
  go_enter Tryz.func65,Tryz.ntmps65;go_wp2_with (first
   |(go_at_call 79;((with_reducible refine(H1.out _ ?_).mono ?_));rotate_left;rintro e w' ⟨rfl,hb⟩;obtain⟨g1,rfl⟩:=aC hb;clear hb)
   |(go_at_call 114;((with_reducible refine(H2.out _ ?_).mono ?_));rotate_left;rintro e w' ⟨rfl,hb⟩;obtain⟨g1,rfl⟩:=aC hb;clear hb))
  all_goals first
   |(go_ret;exact⟨rfl,dB⟩)
   |exact by repeat (first|exact Below.refl _ _|refine bG ?_ _|refine bI ?_ _ _|refine bA ?_ _|refine bD ?_|refine bN ?_ _)
 ):p:=h
theorem aeh (h:p:=by
 intro ca w9 f hI hall hd hs aT bp;obtain⟨r,hr,OX,kJ⟩:=hI.2.post (hall 14 aj);have h7:ca.tmps.getD 7 undef=.bool r:=kJ (16,7) ak (hall 16 aj);have rj:=hid OX;have bf:=Am.bC hd hs bp;simp only [List.foldl_cons,List.foldl_nil,h7] at bf;generalize ca.tmps.getD 69 undef=y69 at bf;generalize ca.tmps.getD 70 undef=y70 at bf;generalize ca.tmps.getD 71 undef=y71 at bf;generalize ca.tmps.getD 72 undef=y72 at bf;generalize ca.tmps.getD 73 undef=y73 at bf;generalize ca.tmps.getD 74 undef=y74 at bf;generalize ca.tmps.getD 75 undef=y75 at bf;generalize ca.tmps.getD 76 undef=y76 at bf;generalize ca.tmps.getD 77 undef=y77 at bf;generalize ca.tmps.getD 78 undef=y78 at bf;generalize ca.tmps.getD 79 undef=y79 at bf;generalize ca.tmps.getD 80 undef=y80 at bf;generalize ca.tmps.getD 81 undef=y81 at bf;generalize ca.tmps.getD 82 undef=y82 at bf;generalize ca.tmps.getD 83 undef=y83 at bf;generalize ca.tmps.getD 84 undef=y84 at bf;exact aei
 ):p:=h
theorem aej (h:p:=by
 have w1:(i:Int)<(A.size:Int):=af;have hpl:i<A.data.toList.length:=by rw [HAl.out];exact lM
 have hw:mW A.data.toList O.data.toList B.data.toList more i=A[i]:=by
  unfold mW;rw [if_pos hpl,List.getD,List.getElem?_eq_getElem hpl];exact Gi
 have hl:(A[i]).toNat∈letters:=JS.out _ (.inl (by
  have:A[i]=A.data.toList[i]:=k6;rw [this];exact List.getElem_mem hpl))
 rw [hw] at hd;obtain⟨cc,hcc⟩:∃cc,(A[i]).toNat=cc:=⟨_,rfl⟩;exact ahZ
 ):p:=h
theorem acv (h:p:=by
 obtain⟨_,o,ho,hall⟩:=mem_ready.1 hn;rw [II] at ho;cases ho;have hc2:eX (pre.push p).toList (fun i=>decide (i<pre.size) && l.getD i false):=fun j o e hj ho he hb=>by
  simp only [Bool.and_eq_true,decide_eq_true_eq] at hj;have Im:pre[j]?=some o:=by
   have:(pre.push p)[j]?=some o:=by rw [←ho];simp only [Array.getElem?_toList]
   rw [A8 j hj.1] at this;exact this
  have h1:=(EK j o Im).1 e he hb;simp only [Bool.and_eq_true,decide_eq_true_eq];exact⟨by omega,hc j o e hj.2 (by simpa using Im) he hb⟩
 have hS:∀e∈p.after,Region.binds .any e=true→(decide (e.on<pre.size) && l.getD e.on false)=true:=fun e he hb=>by
  have h1:=hp e he hb;have h2:=hall e he hb;rw [A7 l false e.on af] at h2;simp [h1,h2]
 have hA:=K8 i hi;have key:(decide (i<pre.size) && l.getD i false)=true:=by
  cases hA with
  |RJ ho he hb=>
   have Im:=ho;rw [Array.getElem?_toList] at Im;rw [II] at Im;cases Im;exact hS _ he hb
  |step ho he hb h2=>
   have Im:=ho;rw [Array.getElem?_toList] at Im;rw [II] at Im;cases Im;exact h2.mem hc2 (hS _ he hb)
 simp only [Bool.and_eq_true,decide_eq_true_eq] at key;exact key.2
 ):p:=h
theorem aek (h:p:=by
 cases R with
 |true=>
  go_enter Tryz.func142,Tryz.ntmps142;go_wp2_with (first
   |(go_at_call 187;((with_reducible refine(Hun.out _ dB).mono ?_));rintro e w' ⟨rfl,hb⟩;obtain⟨g1,rfl⟩:=aC hb;clear hb)
   |(go_at_call 139;((with_reducible refine(eM _).mono ?_));rintro e w' ⟨rfl,hw⟩;rw [hw];clear hw w'))
  exact ael
 |false=>
  go_enter Tryz.func142,Tryz.ntmps142;go_wp2_with (first
   |(go_at_call 187;((with_reducible refine(Hun.out _ dB).mono ?_));rintro e w' ⟨rfl,hb⟩;obtain⟨g1,rfl⟩:=aC hb;clear hb)
   |(go_at_call 139;((with_reducible refine(jF _).mono ?_));rintro e w' ⟨rfl,hw⟩;rw [hw];clear hw w'))
  exact aem
 ):p:=h
theorem aen (h:p:=by
 have e4:(0:Int)≤((i - A.size - more:Nat):Int):=af;have e5:((i - A.size - more:Nat):Int)<(B.size:Int):=af;have e6:(A.size:Int)≤(i:Int):=af;have e7:(A.size:Int)+(more:Int)≤(i:Int):=af;generalize i - A.size - more=bi at*;obtain⟨cc,hcc⟩:∃cc,(B[bi]).toNat=cc:=⟨_,rfl⟩;exact ahZ
 ):p:=h
theorem adE (h:p:=by
 obtain⟨rfl,rfl⟩:=Iu.out rfl;have Zr:0≤ea.1:=of_decide_eq_true Hia.out.symm;have hr:R=[(ea.1,bits .andNot .i64 127 ea.2)]:=by rw [HR.out,if_neg (by omega:¬ea.1<0),if_neg (by omega:¬ea.1<0),aqN.out];rfl
 have Hr:=hid hr;have od:pr.length<M:=Mb;have nE:=hid (F2.out.setCell (p:=⟨U,1,none⟩) hWU (.int .i64 (bits .andNot .i64 127 ea.2)));have hJ1:=HJ.out _ _ _ Iw.out nE.out;obtain⟨fn,tmps,assign,body,hy,hRr⟩:=HY.out (nn - 1) pr (ea.1,bits .andNot .i64 127 ea.2) (w1.setCell ⟨U,1,none⟩ (.int .i64 (bits .andNot .i64 127 ea.2))) hJ1 od;exact Mc
 ):p:=h
theorem adG (h:p:=by
 obtain⟨rfl,rfl⟩:=Iu.out rfl;have Zr:0≤eb.1:=of_decide_eq_true Hib.out.symm;have hr:R=[(eb.1,bits .andNot .i64 127 eb.2)]:=by rw [HR.out,if_pos hlt,if_neg (by omega:¬eb.1<0),aqO.out];rfl
 have Hr:=hid hr;have od:pr.length<M:=Mb;have nE:=hid (F2.out.setCell (p:=⟨U,1,none⟩) hWU (.int .i64 (bits .andNot .i64 127 eb.2)));have hJ1:=HJ.out _ _ _ Iw.out nE.out;obtain⟨fn,tmps,assign,body,hy,hRr⟩:=HY.out (nn - 1) pr (eb.1,bits .andNot .i64 127 eb.2) (w9.setCell ⟨U,1,none⟩ (.int .i64 (bits .andNot .i64 127 eb.2))) hJ1 od;exact Mc
 ):p:=h
theorem adH (h:p:=by
 have h1:(s.toList==[45,57,50,50,51,51,55,50,48,51,54,56,53,52,55,55,53,56,48,56])=true:=by
  rw [ByteArray.toList_eq,h0];exact beq_self_eq_true qR
 have Hr:Hid (eG s.data.toList=true):=hid (by rw [Hm.out,if_pos h0]);clear Hm h0;go_enter Tryz.func185,Tryz.ntmps185;go_wp2_with (first
  |(go_at_call 229;((with_reducible refine(B4.out _).mono ?_));rintro e w' ⟨rfl,rfl⟩)
  |(go_at_call 183;((with_reducible refine(fK.out _).mono ?_));rintro e w' ⟨rfl,hb⟩;obtain⟨g1,rfl⟩:=aC hb;clear hb)
  |(go_at_call 184;refine(nG _ af af _ (Hl.out.later eK)).mono ?_;rintro e w' ⟨rfl,hb⟩;obtain⟨g2,rfl⟩:=aC hb;clear hb))
 exact aep
 ):p:=h
theorem TK (h:p:=by
 intro s hs kp nk kc bE w hl;show Calls _ _ _ _ fun e w'=>e=.returned (.bool (dR s.data.toList))∧Below w.heap.size w w'
 have H1:Hid (∀w',Below w.heap.size w w'→Calls Tryz.prog 134 #[.string s] w' fun e w2=>e=.returned (.bool (dR s.data.toList))∧Below w'.heap.size w' w2):=hid fun w' h=>yl s af w' (hl.later h)
 clear hl;generalize dR s.data.toList=x at*;go_enter Tryz.func141,Tryz.ntmps141;go_wp2_with (first
  |(go_at_call 134;((with_reducible refine(H1.out _ ?_).mono ?_));rotate_left;rintro e w' ⟨rfl,hb⟩;obtain⟨g1,rfl⟩:=aC hb;clear hb))
 all_goals first
  |(go_ret;exact⟨rfl,dB⟩)
  |exact by repeat (first|exact Below.refl _ _|refine bG ?_ _|refine bI ?_ _ _|refine bA ?_ _|refine bD ?_|refine bN ?_ _)
 ):p:=h
theorem TL (h:p:=by
 intro s hs kp nk kc bE w hl;show Calls _ _ _ _ fun e w'=>e=.returned (.bool (dR s.data.toList))∧Below w.heap.size w w'
 have H1:Hid (∀w',Below w.heap.size w w'→Calls Tryz.prog 79 #[.string s] w' fun e w2=>e=.returned (.bool (dR s.data.toList))∧Below w'.heap.size w' w2):=hid fun w' h=>Ci s af w'
 clear hl;generalize dR s.data.toList=x at*;go_enter Tryz.func65,Tryz.ntmps65;go_wp2_with (first
  |(go_at_call 79;((with_reducible refine(H1.out _ ?_).mono ?_));rotate_left;rintro e w' ⟨rfl,hb⟩;obtain⟨g1,rfl⟩:=aC hb;clear hb))
 all_goals first
  |(go_ret;exact⟨rfl,dB⟩)
  |exact by repeat (first|exact Below.refl _ _|refine bG ?_ _|refine bI ?_ _ _|refine bA ?_ _|refine bD ?_|refine bN ?_ _)
 ):p:=h
theorem aeq (h:p:=by
 have arU:=(hKt.trans hk).trans (Kt.jU (N:=N) (ob:=ob) (B:=w0.heap.size) nS TM.below.size TM.size);rintro e w' (⟨rfl,hj4,hk4⟩|⟨rfl,hx⟩)
 ·exact⟨_,rfl,hK _ _ (T2.inv.keep (Am.dO.at (.inl ⟨rfl,by rw [HR.out,←List.append_assoc];exact hj4,arU.trans hk4⟩) (by rw [T2.size];simp) (by intro q hq;simp only [List.mem_cons,List.mem_singleton,List.not_mem_nil,or_false] at hq;rcases hq with rfl|rfl<;>exact⟨by decide,T2.behind _ ai⟩))) trivial⟩
 ·exact⟨_,rfl,hK _ _ (T2.inv.keep (Am.dO.at (.inr ⟨rfl,by obtain⟨q,hq⟩:=hx;exact⟨Md++q,by rw [←List.append_assoc];exact hq⟩⟩) (by rw [T2.size];simp) (by intro q hq;simp only [List.mem_cons,List.mem_singleton,List.not_mem_nil,or_false] at hq;rcases hq with rfl|rfl<;>exact⟨by decide,T2.behind _ ai⟩))) trivial⟩
 ):p:=h
theorem P5 (h:p:=by
 have Hs:=hid (List.take_succ_eq_append_getElem EA);have Hs':=hid (List.take_succ_eq_append_getElem Ji);rw [hT] at Hs Bu;rw [Jj] at Hs' Bu;clear hT Jj;by_cases hs:x=x'
 ·exact aer
 ·have Hd:=hid hs;have f1:(x !=x')=true:=by simp [hs]
  clear hs;exact ac0
 ):p:=h
theorem ij (h:p:=by
 intro s hs kp nk kc bE w hl;show Calls _ _ _ _ fun e w'=>e=.returned (.bool s.data.toList.isEmpty)∧Below w.heap.size w w'
 rw [←ByteArray.toList_eq];clear hl;cases h:s.toList.isEmpty
 ·have h2:(s.toList==[])=false:=by cases e:s.toList with
   |nil=>rw [e] at h;cases h
   |cons x l=>rfl
  exact aes
 ·have h2:(s.toList==[])=true:=by cases e:s.toList with
   |nil=>rfl
   |cons x l=>rw [e] at h;cases h
  exact aes
 ):p:=h
theorem adp (h:p:=by
 obtain⟨nS,hF2,Pn,tF⟩:=chain h3 mU lM iZ hx2;have ha2:=ha1.mono hx2.keep;cases en with
 |ret v=>
  cases e2 with
  |panicked c=>exact hen.elim
  |outgrown=>exact hen.elim
  |returned v'=>
  obtain⟨a1,s3,h5,h6⟩:=aH h4;obtain⟨rfl,ha3⟩:=ha2.put hen h5;refine kP hX nT hc rest a1 _ e a' s' h6 E2 _ w2 _ Q ρ' ((hρ.mono hx1.keep).mono hx2.keep) qZ nS hF2 ha3 fun E' ce kA w' Jo IA ha' xF=>hQ E' ce kA w' (pJ E' (Pn E' Jo)) IA ha' (by rw [tF,j8] at xF;exact xF)
 |panic v=>
  obtain⟨h5,rfl⟩:=pure_run h4;cases h5;cases e2 with
  |panicked c=>
   have yu:merge I s' (merge I s1 g)=merge I s' g:=j8;exact hQ E2 (.panic c) ca w2 (pJ E2 hx2) hen ha2 (by rw [yu] at qZ;exact qZ)
  |returned v'=>exact hen.elim
  |outgrown=>exact hen.elim
 ):p:=h
theorem iq (h:p:=by
 intro s hs kp nk kc bE w hl;show Calls _ _ _ _ fun e w'=>e=.returned (.bool s.data.toList.isEmpty)∧Below w.heap.size w w'
 rw [←ByteArray.toList_eq];clear hl;cases h:s.toList.isEmpty
 ·have h2:(s.toList==[])=false:=by cases e:s.toList with
   |nil=>rw [e] at h;cases h
   |cons x l=>rfl
  exact aet
 ·have h2:(s.toList==[])=true:=by cases e:s.toList with
   |nil=>rfl
   |cons x l=>rw [e] at h;cases h
  exact aet
 ):p:=h
theorem acy (h:p:=by
 have hall:∀i,i<pre.size→l.getD i false=true:=by
  intro i
  induction i using Nat.strongRecOn with
  |_ i ihi=>
   intro hi;have hi':i<l.size:=af;cases hv:l[i] with
   |true=>simp [Array.getD_eq_getD_getElem?,hi',hv]
   |false=>
    exfalso;have:i∈Region.ready .any pre l:=mem_ready.2 ⟨by simp [Array.getD_eq_getD_getElem?,hi',hv],pre[i],by simp [hi],fun e he hb=>by
     have hlt:=(EK i pre[i] (by simp [hi])).1 e he hb;exact ihi e.on hlt af⟩
    rw [←rdy l hl i hi,h] at this;cases this
 have:pre.size∈Region.ready .any (pre.push p) (l.push false):=mem_ready.2 ⟨by rw [←hl];exact akR l,p,II,fun e he hb=>by
  have:=hp e he hb;rw [A7 l false e.on af];exact hall e.on this⟩
 rw [h] at this;cases this
 ):p:=h
theorem aeu (h:p:=by
 have Z5:=trivial;exact Gv
 ):p:=h
theorem acB (h:p:=by
 intro listed ca w hsz JL hb hd hs Ai aT bp;have hall:∀i,i<ops.length→listed.getD i false=true:=fun i hi=>by
  exact aev
 refine⟨?_,eP ca w hb hd hs (fun j p d hp mS=>aT j p d hp mS (hall j (List.getElem?_eq_some_iff.1 hp).1)) bp⟩;exact aew
 ):p:=h
theorem aex (h:p:=by
 have Z6:=trivial;exact Gv
 ):p:=h
theorem aey (h:p:=by
 have Z7:=trivial;exact Gv
 ):p:=h
theorem adT (h:p:=by
 have TN:=trivial;exact adU
 ):p:=h
theorem adD (h:p:=by
 obtain⟨rfl,rfl⟩:=Iu.out rfl;have Zr:0≤ea.1:=of_decide_eq_true Hia.out.symm;have hr:R=[(ea.1,ea.2)]:=by rw [HR.out,if_neg (by omega:¬ea.1<0),if_neg (by omega:¬ea.1<0)];rfl
 have Hr:=hid hr;have od:pr.length<M:=Mb;have nE:=F2;have hJ1:=HJ.out _ _ _ Iw.out nE.out;obtain⟨fn,tmps,assign,body,hy,hRr⟩:=HY.out (nn - 1) pr (ea.1,ea.2) w1 hJ1 od;exact Mc
 ):p:=h
theorem aez (h:p:=by
 have Z8:=trivial;exact Gv
 ):p:=h
theorem adF (h:p:=by
 obtain⟨rfl,rfl⟩:=Iu.out rfl;have Zr:0≤eb.1:=of_decide_eq_true Hib.out.symm;have hr:R=[(eb.1,eb.2)]:=by rw [HR.out,if_pos hlt,if_neg (by omega:¬eb.1<0)];rfl
 have Hr:=hid hr;have od:pr.length<M:=Mb;have nE:=F2;have hJ1:=HJ.out _ _ _ Iw.out nE.out;obtain⟨fn,tmps,assign,body,hy,hRr⟩:=HY.out (nn - 1) pr (eb.1,eb.2) w9 hJ1 od;exact Mc
 ):p:=h
theorem aeA (h:p:=by
 have Z9:=trivial;exact Gv
 ):p:=h
theorem aeB (h:p:=by
 refine vE.out.2.trans (nH.trans ((aK.grown (O':=aJ FB mm aB u0 u1 u2 u3 (.slice (some ⟨g3,0,none⟩) Q Me)) (dY _ FB 5 _) (by have:=iZ.lt;omega) (fun k e=>by cases e;exact⟨fR,.inl rfl⟩) (fun g h=>.inl ?_)).trans (aK.fresh (Below.refl _ _).drew (by have:=iZ.lt;simp;omega))));rcases h with h|h|h|h|h|h|h|h
 ·exact .inl h
 ·exact .inr (.inl h)
 ·exact .inr (.inr (.inl (List.mem_append_left _ h)))
 ·exact .inr (.inr (.inr (.inl h)))
 ·exact .inr (.inr (.inr (.inr (.inl h))))
 ·exact .inr (.inr (.inr (.inr (.inr (.inl h)))))
 ·exact .inr (.inr (.inr (.inr (.inr (.inr (.inl h))))))
 ·exact .inr (.inr (.inr (.inr (.inr (.inr (.inr (by rw [Ob];exact h)))))))
 ):p:=h
theorem acL (h:p:=by
 have hh:=decode_high s pos hlt af;have Jc:=decode_le s pos;have nx:=xL (P:=Tryz.prog) s pos (Utf8.decode s pos).1 (Utf8.decode s pos).2 hlt rfl;rw [if_pos (by have:=Bj (b:=(s[pos]).toNat) af;omega)] at hd;generalize (Utf8.decode s pos).1=b at*;generalize (Utf8.decode s pos).2=wd at*;have k1:=hh.1;have H:=hid hd;have Hm:=hid hm;clear hd hm hR hb hh;go_wp2_with (first
  |(go_at_call 228;refine(x9 b af af _).mono ?_;rintro e w' ⟨rfl,hb⟩;obtain⟨g2,rfl⟩:=aC hb;clear hb))
 go_ret2;exact⟨by rw [H.out];rfl,eK⟩
 ):p:=h
theorem adY (h:p:=by
 subst Iq;clear Hz;go_wp2_with (go_at_call 125;((with_reducible refine(Ha.out _ p6).mono ?_));rintro e w' ⟨rfl,hb⟩;obtain⟨G1,rfl⟩:=aC hb;clear hb);refine bodyPost_ret (v:=.tuple #[.agg #[.int .i64 va,.int .i64 1],.bool (decide (0≤va))]) (by simp [results,Tryz.f126,go_sem]) rfl ?_;refine⟨va,1,_,rfl,p6, ?_, ?_⟩
 ·rw [HE.out,HR.out];by_cases hv:0≤va<;>simp [hv]
 ·intro hv;rw [HE.out,HR.out];simp [of_decide_eq_true hv]
 ):p:=h
theorem aeC (h:p:=by
 have aaa:=trivial;exact Gv
 ):p:=h
theorem aeD (h:p:=by
 cases ho;have Cg:=T2.ahead 14 ai;obtain⟨r,hr,OX,kJ⟩:=T2.inv.2.post Cg;have h83:kL.tmps.getD 83 undef=.bool r:=hr;replace h83:=Am.aS h83;have h76:kL.tmps.getD 76 undef=.bool true:=Am.aV (j:=7) ah ai rfl rfl;replace h76:=Am.aS h76;refine Am.bX Am.dm (Am.aD rfl rfl (Am.aU (v:=.bool r) ?_ (hK _ _ (T2.inv.keep (T2.inv.2.LM Cg aj aj (by rw [T2.size];simp) aj (fun r2 h2=>by rw [hr] at h2;cases h2;rfl))) trivial)));generalize kL.eval=ev at*;simp [go_sem,execOp,hfn,hcs,h83,h76]
 ):p:=h
theorem aeE (h:p:=by
 have hr:R=[]:=BV.out;have Hr:=hid hr;clear hr BV HM AZ Oc;generalize s.vars.length=n0 at*;generalize s.uses.length=n1 at*;generalize s.funcs.length=n2 at*;generalize s.cF.length=n3 at*;generalize ns.length=L at*;exact aeF
 ):p:=h
theorem acA (h:p:=by
 have aab:∀k,(l.setIfInBounds i true).getD k false=(l.getD k false||decide (k=i)):=fun k=>by
  by_cases hk:k=i
  ·subst hk;simp [Array.getD_eq_getD_getElem?,ji]
  ·have hk':¬i=k:=fun h=>hk h.symm
   simp [Array.getD_eq_getD_getElem?,Array.getElem?_setIfInBounds,hk,hk']
 simp only at hj ⊢;rw [aab] at hj ⊢;rw [Bool.or_eq_true,decide_eq_true_eq] at hj;rcases hj with hj|hj
 ·have h5:l.getD e.on false=true:=hc j o' e hj Im he hb;rw [h5];rfl
 ·subst hj;have:pre[j]?=some o':=by simpa using Im
  rw [ho] at this;cases this;rw [Pd e he hb];rfl
 ):p:=h
theorem aeG (h:p:=by
 exact amS
 ):p:=h
theorem acz (h:p:=by
 apply Array.ext_getElem?;intro k;by_cases hk:k=i
 ·subst hk;have e1:¬k=l.size:=af;have hR:((l.setIfInBounds k true).push false)[k]?=some true:=by
   rw [Array.getElem?_push,if_neg (by rw [Array.size_setIfInBounds];exact e1)];simp [ji]
  have hL:((l.push false).setIfInBounds k true)[k]?=some true:=by
   have h9:k<(l.push false).size:=by rw [Array.size_push];omega
   rw [Array.getElem?_setIfInBounds,if_pos rfl,if_pos h9]
  rw [hR,hL]
 ·have hk':¬i=k:=fun h=>hk h.symm
  simp [Array.getElem?_setIfInBounds,Array.getElem?_push,hk']
 ):p:=h
theorem aeH (h:p:=by
 have BI:=Hkm.out m;rw [if_neg (by have:=Od.out;omega)] at BI;have aac:=hid BI;clear BI Hkm;by_cases hu0:u<0
 ·clear hu;exact aeI
 ·have Xe:(k:Int)≤u:=by omega
  have hu2:0≤u:=af;clear hu hu0;exact aeI
 ):p:=h
theorem ad4 (h:p:=by
 have Hb:=hid eA;clear eA FJ;go_wp2_with (go_at_call 93;((with_reducible refine(Rl.out _ (by repeat (first|exact Below.refl _ _|exact LL.out|exact lZ LL.out af|refine bG ?_ _|refine bI ?_ _ _|refine bA ?_ _|refine bD ?_|refine bN ?_ _))).mono ?_));rintro e w' ⟨rfl,hb⟩;obtain⟨g4,rfl⟩:=aC hb;clear hb);exact aeJ
 ):p:=h
theorem Ty (h:p:=by
 have Hc:=hid hc;have xu:f.toList.isEmpty=false:=by cases e:f.toList with
  |nil=>rw [e] at hne;cases hne
  |cons x l=>rfl
 clear hc;go_enter Tryz.func140,Tryz.ntmps140;go_wp2_with (first
  |(go_at_call 139;((with_reducible refine(eM _).mono ?_));rintro e w' ⟨rfl,hw⟩;rw [hw];clear hw w')
  |(go_at_call 139;((with_reducible refine(jF _).mono ?_));rintro e w' ⟨rfl,hw⟩;rw [hw];clear hw w')
  |(go_at_call 179;refine(Hc.out _).mono ?_;rintro e w' ⟨rfl,hw⟩;rw [hw];clear hw w'))
 exact⟨rfl,rfl,Below.refl _ _⟩
 ):p:=h
theorem aeK (h:p:=by
 cases ho;have Cg:=T2.ahead 14 ai;obtain⟨r,hr,OX,kJ⟩:=T2.inv.2.post Cg;have h84:kL.tmps.getD 84 undef=.bool r:=kJ (15,84) ak (T2.ahead 15 ai);replace h84:=Am.aS h84;refine Am.bX Am.dm (Am.aD rfl rfl (Am.aU (v:=.bool r) ?_ (hK _ _ (T2.inv.keep (T2.inv.2.LM Cg aj aj (by rw [T2.size];simp) aj (fun r2 h2=>by rw [hr] at h2;cases h2;rfl))) trivial)));generalize kL.eval=ev at*;simp [go_sem,execOp,hfn,hcs,h84]
 ):p:=h
theorem TQ (h:p:=by
 have ko:listed.getD 7 false=false:=T.behind 7 ai;have hA:=T.inv.pre ko;have Cj:=(hA.cell (p:=⟨DB,0,none⟩) Jh).trans Mf;have l7:=(hA.cell (p:=⟨W.heap.size,2,none⟩) lA).trans Mg;have kf:=(hA.cell (p:=⟨bk,ok,none⟩) uv).trans Mh;replace hK:=fun v w' (hbl:Below w1.heap.size w1 w') hφ=>hK v w' (Am.dO.jh ko aj (hA.trans (hbl.mono hA.size))) hφ
 refine Am.rC rfl rfl (hK _ _ (Below.refl _ _) rfl) ?_;exact zF
 ):p:=h
theorem acw (h:p:=by
 apply List.eq_nil_iff_forall_not_mem.2;intro i hi;obtain⟨h1,o,ho,_⟩:=mem_ready.1 hi;have hlt:=(Array.getElem?_eq_some_iff.1 ho).1;simp at hlt;by_cases e:i=pre.size
 ·subst e;simp [Array.getD_eq_getD_getElem?,hl] at h1
 ·have h2:=hall i af;have hi':i<l.size:=af;have e':¬pre.size=i:=fun h=>e h.symm
  have e2:¬i=l.size:=af;simp [Array.getD_eq_getD_getElem?,Array.getElem?_setIfInBounds,Array.getElem?_push,e',e2,hi'] at h1 h2;rw [h2] at h1;cases h1
 ):p:=h
theorem adK (h:p:=by
 obtain rfl:j=sp:=af;have hJ2:=hJ.out;rw [show j - j=0 by omega,List.take_zero,List.all_nil] at hJ2;have hRu:=Hru.out;rw [←hJ2,Bool.true_and,List.drop_drop] at hRu;have HRu:=hid hRu;have a3:¬((j:Nat):Int)<((j:Nat):Int):=af;clear hJ2 hJ hRu;go_wp2;refine⟨⟨pos+1,bE+j,g2,by simp,rfl,by omega,by have:=NC.out;omega,HRu.out.symm,by have:=NC.out;omega⟩, ?_⟩;exact Lz
 ):p:=h
theorem adm (h:p:=by
 have Hb:=hid eA;clear eA FJ;go_wp2_with (go_at_call 62;((with_reducible refine(Rl.out _ dB).mono ?_));rintro e w' ⟨rfl,hb⟩;obtain⟨g4,rfl⟩:=aC hb;clear hb);exact aeL
 ):p:=h
theorem adQ (h:p:=by
 exact aea
 ):p:=h
theorem ac1 (h:p:=by
 have Xg:(9:Int)<(gw b:Int):=af;have hd:=H.out;rw [if_pos (.inl q1)] at hd;have H2:=hid hd;clear hd;go_wp2_with (first
  |(go_at_call 171;((with_reducible refine(js b jg _).mono ?_));rintro e w' ⟨rfl,hb⟩;obtain⟨g2,rfl⟩:=aC hb;clear hb))
 go_ret2;exact⟨by rw [H2.out];rfl,Bv⟩
 ):p:=h
theorem ady (h:p:=by
 refine⟨fun r hr=>?_, ?_⟩
 ·rcases List.mem_cons.1 hr with rfl|hr
  ·rw [gU];intro x hx;rcases List.mem_cons.1 hx with rfl|hx
   ·simp
   ·have:=fR x hx;have:¬(x.i<i):=af;simp [this]
  ·rw [ih.1 r hr];have hlt:i<r.i:=by have:=fR r hr;omega
   simp only [eW,hlt,decide_true,Bool.true_and,hbase]
 ·rw [ih.2];simp only [eW,hbase]
 ):p:=h
theorem aeM (h:p:=by
 have hd:=hR.out;rw [List.drop_eq_nil_of_le (by rw [lN.out];omega)] at hd;have Hd:=hid (show jm A.data.toList O.data.toList B.data.toList more ks 0=true from hd.symm);have i1:¬(i:Int)<(m:Int):=af;clear hd hR;go_wp2;go_ret;exact⟨by rw [Hd.out];rfl,dB⟩
 ):p:=h
theorem Mi (h:p:=by
 have bf:=Am.bC hd hs bp;simp only [List.foldl_cons,List.foldl_nil,hFE,hs5] at bf;obtain⟨yf,jL⟩:∃y:Nat→Value,∀t,ca.tmps.getD t undef=y t:=⟨_,fun _=>rfl⟩;simp only [jL] at bf;clear jL;subst bf;simp only [List.setIfInBounds_toArray,List.set_cons_succ,List.set_cons_zero];have HCA:=hid (HA.out w1 U hb hU hUW);clear hb hd hs aT bp hFE hs5 hU e8 e9 ek
 ):p:=h
theorem aeN (h:p:=by
 cases ho;have aQ:=Am.lk 71 2 ah fun _=>rfl
 have hA:=T.inv.2;have Cj:=(hA.cell (p:=⟨DB,0,none⟩) Jh).trans Mf;have l7:=(hA.cell (p:=⟨W.heap.size,2,none⟩) lA).trans Mg;have kf:=(hA.cell (p:=⟨bk,ok,none⟩) uv).trans Mh;refine Am.rC rfl rfl (hK _ _ (T.inv.keep aj hA) rfl) ?_;exact Mj
 ):p:=h
theorem aeO (h:p:=by
 cases ho;have aQ:=Am.lk 70 1 ah fun _=>rfl
 have hA:=T.inv.2;have Cj:=(hA.cell (p:=⟨DB,0,none⟩) Jh).trans Mf;have l7:=(hA.cell (p:=⟨W.heap.size,2,none⟩) lA).trans Mg;have kf:=(hA.cell (p:=⟨bk,ok,none⟩) uv).trans Mh;refine Am.rC rfl rfl (hK _ _ (T.inv.keep aj hA) rfl) ?_;exact Ml
 ):p:=h
theorem aeP (h:p:=by
 cases ho;have aQ:=Am.lk 72 3 ah fun _=>rfl
 have hA:=T.inv.2;have Cj:=(hA.cell (p:=⟨DB,0,none⟩) Jh).trans Mf;have l7:=(hA.cell (p:=⟨W.heap.size,2,none⟩) lA).trans Mg;have kf:=(hA.cell (p:=⟨bk,ok,none⟩) uv).trans Mh;refine Am.rC rfl rfl (hK _ _ (T.inv.keep aj hA) rfl) ?_;exact Mm
 ):p:=h
theorem acu (h:p:=by
 rw [mem_ready,mem_ready,A8 i hi,A7 l true i af];constructor
 ·rintro⟨h1,o,h2,h3⟩;refine⟨h1,o,h2,fun e he hb=>?_⟩;have:=(EK i o h2).1 e he hb;rw [←A7 l false e.on af];exact h3 e he hb
 ·rintro⟨h1,o,h2,h3⟩;refine⟨h1,o,h2,fun e he hb=>?_⟩;have:=(EK i o h2).1 e he hb;rw [A7 l false e.on af];exact h3 e he hb
 ):p:=h
theorem adR (h:p:=by
 refine Am.aD rfl rfl (Am.dG (w':=w1) (f:=12) (args:=#[.slice p L cap,.agg #[.slice p0 n0 c0,.slice p1 n1 c1,.slice p2 n2 c2,.slice p3 n3 c3],.int .i64 n,.bool yes]) ?_ ((HT.out w1 hb).mono ?_))
 ·exact Gw
 ·rintro e w' ⟨v,rfl,hb',BS⟩;exact⟨_,rfl,hK _ _ hb' (BS.mono hb.size)⟩
 ):p:=h
theorem adS (h:p:=by
 refine Am.aD rfl rfl (Am.dG (w':=w1) (f:=13) (args:=#[.slice p L cap,.agg #[.slice p0 n0 c0,.slice p1 n1 c1,.slice p2 n2 c2,.slice p3 n3 c3],.int .i64 n,.bool yes]) ?_ ((HU.out w1 hb).mono ?_))
 ·exact Gw
 ·rintro e w' ⟨v,rfl,hb',BS⟩;exact⟨_,rfl,hK _ _ hb' (BS.mono hb.size)⟩
 ):p:=h
theorem aeQ (h:p:=by
 cases ho;have aQ:=Am.lo 4 ah rfl;have hA:=T.inv.2;have Cj:=(hA.cell (p:=⟨DB,0,none⟩) Jh).trans Mf;have l7:=(hA.cell (p:=⟨W.heap.size,2,none⟩) lA).trans Mg;have kf:=(hA.cell (p:=⟨bk,ok,none⟩) uv).trans Mh;refine Am.rC rfl rfl (hK _ _ (T.inv.keep aj hA) rfl) ?_;exact TR
 ):p:=h
theorem aeR (h:p:=by
 rw [nI];have:=heap_alloc_new (W.alloc (.cells #[.slice p0 n0 c0,.slice p1 n1 c1,.slice p2 n2 c2,.slice p3 n3 c3] 28)) (.cells #[.int .i64 27,.string xt,.slice (some ⟨bk,ok,none⟩) q xc,.int .i64 eY] 56);exact aeS
 ):p:=h
theorem aeT (h:p:=by
 cases ho;have aQ:=Am.lo 8 ah rfl;exact aeU
 ):p:=h
theorem aeV (h:p:=by
 cases ho;have aQ:=Am.lo 1 ah rfl;exact aeU
 ):p:=h
theorem ado (h:p:=by
 by_cases hlt:d<ca.tmps.size
 ·simp only [hlt,decide_true,cond_true];rw [Array.getElem?_eq_getElem hlt];have:ca.tmps.getD d undef=ca.tmps[d]:=by simp [hlt]
  rw [this] at hv;generalize a.val d=x at hv;generalize ca.tmps[d]=y at hv;cases hv<;>rfl
 ·simp only [hlt,decide_false,cond_false];rw [Array.getElem?_eq_none (Nat.le_of_not_lt hlt)]
 ):p:=h
theorem aeW (h:p:=by
 exact ad7
 ):p:=h
theorem RU (h:p:=by
 exact aeF
 ):p:=h
theorem adN (h:p:=by
 have nx:=l5 (P:=Tryz.prog) f pos hlt;have xy:=hR.out.1;rw [List.drop_eq_nil_of_le (by rw [Hfl.out];omega)] at xy;have Hd2:=hid (show R=true from xy.symm);clear xy hR;go_wp2;go_end0;exact⟨by rw [Hd2.out];rfl,dB⟩
 ):p:=h
theorem ac3 (h:p:=by
 go_enter Tryz.func65,Tryz.ntmps65;go_wp2_with (go_at_call 117;((with_reducible refine(fK.out _).mono ?_));rintro e w' ⟨rfl,hb⟩;obtain⟨g1,rfl⟩:=aC hb;clear hb);exact aeX
 ):p:=h
theorem aeY (h:p:=by
 intro w1 hown1 uX;have R2:=ct.grown uX ct.size (fun j hj=>by cases hj;exact Nat.le_refl _);have R3:=hid (hS.out.snoc t.data.toList (.lit (.int .i64 (wrap64 (c+1)))));rw [←Hst.out] at R3;clear uX hown e1 e2 ct hat hwc;go_wp2;go_roundw
 case rel=>exact⟨k+1,_,by omega,by go_num,hown1,R2,R3⟩
 case measure=>simp [intOf];omega
 ):p:=h
theorem ade (h:p:=by
 have rj:=hid OX;clear hI hall hd hs aT bp hr h7 kJ OX;subst bf;simp only [List.setIfInBounds_toArray,List.set_cons_succ,List.set_cons_zero];refine tV _ _ ?_;gi_wp2;refine bodyPost_ret (results_tmp rfl _ _ _) rfl ?_;rcases rj.out with⟨rfl,h1,h2⟩|⟨rfl,h1⟩
 ·exact .inl ⟨rfl,by rw [Hr.out];exact h1,h2⟩
 ·exact .inr ⟨rfl,_,h1⟩
 ):p:=h
theorem ac2 (h:p:=by
 have hd:=H.out;rw [if_neg af] at hd;refine⟨⟨pos+1,m*10+gw b,by simp, ?_,Bv,by omega,by omega,hd.symm⟩,by simp [intOf];omega⟩;rw [show 10*(m:Int)+(gw b:Int)=((m*10+gw b:Nat):Int) by omega]
 ):p:=h
theorem ad5 (h:p:=by
 refine⟨by rw [Oe], ?_⟩;rcases h.2 with⟨h1,h2⟩|⟨g',cap,cur,hv,hg,hh,hn,hm,hsz,uV⟩
 ·cases h1
 ·cases hv;refine .inr ⟨g,cp,_,by simp,hg,cq hh _ _,by simpa using hn,hm,by simpa using hsz, ?_⟩;rw [Ck vs i hi j hj x' cv hx,List.length_set,←uV,Array.toList_setIfInBounds,List.take_set]
 ):p:=h
theorem adI (h:p:=by
 rw [if_pos hcs] at wD tu;have Hru:=hid wD;have NC:=hid tu;rcases hcs with hcs|hcs
 all_goals
  rw [hcs] at nx;clear wD tu hR JT hb hx qQ hdec C6 hcs;go_wp2;refine⟨⟨pos+1,bE,g,rfl,rfl,by omega,hat,Hru.out.symm,NC.out⟩, ?_⟩;rw [kE _ _ _ _ _ rfl,kE _ _ _ _ _ rfl];omega
 ):p:=h
theorem adl (h:p:=by
 have Hb:=hid (hno (by simp [cD,hd]));exact adk
 ):p:=h
theorem aeZ (h:p:=by
 exact ae0
 ):p:=h
theorem RD (h:p:=by
 go_enter Tryz.func92,Tryz.ntmps92;go_wp2_with (go_at_call 139;((with_reducible refine(jF _).mono ?_));rintro e w' ⟨rfl,hw⟩;rw [hw];clear hw w');refine⟨rfl,vh us Hr.out rfl ?_⟩
 repeat (first|exact Below.refl _ _|refine bG ?_ _|refine bI ?_ _ _|refine bA ?_ _|refine bD ?_|refine bN ?_ _)
 ):p:=h
theorem acM (h:p:=by
 have nx:=l5 (P:=Tryz.prog) s pos hlt;have hd:=hR.out.2;rw [List.drop_eq_nil_of_le (by rw [Hl.out];omega)] at hd;have H:=hid hd;have Hm:=hid hR.out.1;clear hd hR;go_wp2;go_ret2;exact⟨by rw [←H.out];rfl,eK⟩
 ):p:=h
theorem amV (h:p:=by
 rw [dM,if_neg ni];rw [if_neg cX];rw [if_neg cX];rw [if_neg cX];rw [if_neg cX];rw [if_neg cX];rw [if_neg cX];rw [if_neg cX];rw [if_pos az];rfl
 ):p:=h
theorem ac7 (h:p:=by
 intro e w8 hh
 first|(subst hh;intro oZ)|(obtain⟨rfl,oZ⟩:=hh)
 try rw [←hp] at oZ
 have Nh:=hid oZ;clear oZ;go_wp2;go_end0;refine⟨rfl, ?_⟩;have eP:=(Fk.out.later (au W _) pq).trans Fl.out|>.trans Nh.out
 rw [jc.out];exact Mn
 ):p:=h
theorem adr (h:p:=by
 clear jx bW;exact ads
 ):p:=h
theorem ae1 (h:p:=by
 refine Am.aD rfl rfl (Am.aU (v:=.slice (some ⟨w1.heap.size,0,none⟩) 1 1) (w':=w1.alloc (.cells #[.int .i64 z1] 3)) ?_ (hK _ _ ((Below.refl _ _).alloc (Nat.le_refl _) _) ⟨w1.heap.size,rfl,heap_alloc_new _ _,hBs⟩));exact zF
 ):p:=h
theorem ae2 (h:p:=by
 refine Am.aD rfl rfl (Am.aU (v:=.slice (some ⟨w1.heap.size,0,none⟩) 1 1) (w':=w1.alloc (.cells #[.int .i64 z0] 3)) ?_ (hK _ _ ((Below.refl _ _).alloc (Nat.le_refl _) _) ⟨w1.heap.size,rfl,heap_alloc_new _ _,hBs⟩));exact zF
 ):p:=h
theorem ae3 (h:p:=by
 have hx:=hR.out;rw [List.drop_eq_nil_of_le (by rw [Hln.out];omega)] at hx;have Hx:=hid hx.symm;have k1:¬(k:Int)<(s.size:Int):=af;clear hx hR;go_wp2;go_ret;exact⟨by rw [Hx.out];rfl,eK⟩
 ):p:=h
theorem ae4 (h:p:=by
 have e1:=cM kj.out m;have e2:=eB (ns:=ns) (ax ns (m:Int)) y (by rw [bW];exact DJ);rw [e1];have e3:(ax ns (m:Int))[y]'(by rw [bW];exact DJ)=(z:Int):=by simp only [bW];exact hz
 rw [e3] at e2;have e4:((z:Int)).toNat=z:=rfl;rw [e4] at e2;omega
 ):p:=h
theorem TS (h:p:=by
 refine⟨?_,⟨h.rows.len,fun i v l a b=>eL (h.rows.rows i v l a b) _ af,h.rows.apart⟩, ?_⟩
 ·rw [cq h.heap _ _];rfl
 ·refine h.vars.kept hg (.inr fun e=>?_);have:=(Lib.ownsRow_kind h.vars _ e);obtain⟨cc,fz,hh⟩:=this;rw [h.heap] at hh;simp at hh
 ):p:=h
theorem SB (h:p:=by
 exact aew
 ):p:=h
theorem TT (h:p:=by
 exact ae5
 ):p:=h
theorem PA (h:p:=by
 have hd:=H.out;rw [if_pos (by
  rcases Nat.lt_or_ge (uS b) 17 with h|h
  ·have:=xH h;omega
  ·have:=Lc (b:=b) af;omega)] at hd
 exact ae6
 ):p:=h
theorem P8 (h:p:=by
 have hd:=hR.out.2;rw [List.drop_eq_nil_of_le (by rw [Hl.out];omega)] at hd;have H:=hid hd;have Hm:=hid hR.out.1;have p2:¬((pos:Int)<(s.size:Int)):=af;clear hd hR;go_wp2;go_ret2;exact⟨by rw [←H.out,show kZ [] m=some m from rfl,M5 Hm.out];rfl,hB⟩
 ):p:=h
theorem J8 (h:p:=by
 have Hb:=hid (hno (by simp [cD,hd]));exact ae7
 ):p:=h
theorem J7 (h:p:=by
 have Hb:=hid (hno (by simp [cD]));exact ae7
 ):p:=h
theorem TU (h:p:=by
 exact ae8
 ):p:=h
theorem QC (h:p:=by
 rw [dM,if_neg ni];rw [if_neg cX];exact ae9
 ):p:=h
theorem Kg (h:p:=by
 clear vg;go_enter Tryz.func13,Tryz.ntmps13;go_wp2_with (first
  |(go_at_call 32;rw [←hW1];with_reducible refine Hp.out.mono ?_;rintro e w9 ⟨rfl,gA⟩;have mM:=hid gA;clear gA hW1))
 go_ret;exact⟨_,rfl,pn.out.trans (mM.out.mono pn.out.size),fT.empty _ _⟩
 ):p:=h
theorem Kh (h:p:=by
 clear vg;go_enter Tryz.func12,Tryz.ntmps12;go_wp2_with (first
  |(go_at_call 29;rw [←hW1];with_reducible refine Hp.out.mono ?_;rintro e w9 ⟨rfl,gA⟩;have mM:=hid gA;clear gA hW1))
 go_ret;exact⟨_,rfl,pn.out.trans (mM.out.mono pn.out.size),fT.empty _ _⟩
 ):p:=h
theorem ah1 (h:p:=by
 rw [T.get'];rcases j with _|_|_|_|_|_|_|j
 ·exact T.ahead 0 ai
 ·exact T.ahead 1 ai
 ·exact T.ahead 2 ai
 ·exact T.ahead 3 ai
 ·exact T.ahead 4 ai
 ·exact T.ahead 5 ai
 ·rfl
 ·omega
 ):p:=h
theorem Jq (h:p:=by
 intro e w9 hh
 first|(subst hh;intro kJ)|(obtain⟨rfl,kJ⟩:=hh)
 try rw [←hp] at kJ
 have QH:=hid kJ;clear kJ;go_wp2;go_end0;refine⟨rfl, ?_⟩;have eP:=(Fk.out.later (au W _) pq).trans QH.out;exact Mn
 ):p:=h
theorem P4 (h:p:=by
 have Hd:=hid (Jf ht);clear ht;rw [Hd.out] at Hs;exact amW
 ):p:=h
theorem SM (h:p:=by
 refine Am.aD rfl rfl (Am.dG (w':=w1) (f:=11) (args:=#[x1,x2]) ?_ ((ah2 w1 _ _ x1 x2 R hr1 hr2 SK.out).mono ?_))
 ·generalize ca.eval=ev at*;simp [go_sem,execOp,hfn,hcs,e1,e2]
 ·exact Bz
 ):p:=h
theorem Pb (h:p:=by
 apply List.eq_nil_iff_forall_not_mem.2;intro i hi;obtain⟨h1,o,ho,_⟩:=mem_ready.1 hi;have hlt:=(Array.getElem?_eq_some_iff.1 ho).1;have:=hl i hlt;have hi':i<l.size:=af;simp [Array.getD_eq_getD_getElem?,hi'] at this h1;rw [this] at h1;cases h1
 ):p:=h
theorem TV (h:p:=by
 subst hy;have hr:R=[]:=pF.out;subst hr;clear pF H0 H1 hiT zT0 zT1 zT2;exact afa
 ):p:=h
theorem RN (h:p:=by
 cases en with
 |panic u=>exact(aM h4).elim
 |ret u=>
  obtain⟨rfl,rfl⟩:=pure_run h4;cases e2 with
  |panicked c=>exact hen.elim
  |outgrown=>exact hen.elim
  |returned u'=>exact hK E2 u' w2 (pJ E2 hx2) hen (by rw [j8] at qZ;exact qZ)
 ):p:=h
theorem JM (h:p:=by
 exact aev
 ):p:=h
theorem Pf (h:p:=by
 unfold Region.wanted;cases hg:o.guard with
 |none=>rfl
 |some jw=>
  obtain⟨j,b⟩:=jw;have hj:=(EK i o ho).2 j b hg;simp only;have:yielded (pre.push p) a.tmps j=yielded pre a.tmps j:=by
   unfold yielded;rw [A8 j hj]
  rw [this]
 ):p:=h
theorem Tt (h:p:=by
 go_wp2;go_quiet (fail);go_wp2;go_roundw
 case rel=>exact⟨j,_,by omega,rfl,by first|rfl|go_num,by repeat (first|exact HB.out|refine bN ?_ _|refine bD ?_),HJ2⟩
 case measure=>
  show(((j:Int) - 1)+1).toNat<((j:Int)+1).toNat;omega
 ):p:=h
theorem SU (h:p:=by
 clear Hr;go_wp2_with (go_at_call 139;((with_reducible refine(jF _).mono ?_));rintro e w' ⟨rfl,hw⟩;rw [hw];clear hw w');exact⟨rfl,by rw [HR.out];rfl,eK⟩
 ):p:=h
theorem TW (h:p:=by
 obtain⟨b',o',_,_,_,hf',_⟩:=bh (aF hW ha) hi;obtain⟨b1,o1,e1,g1,c1⟩:=bQ hf' o8;obtain⟨b2,o2,e2,g2,c2⟩:=bQ hf' mJ;rw [eO] at e1 e2;cases e1;cases e2;rw [hg,Nat.add_zero] at c1;rw [hg1] at c2;exact⟨g1,c1,c2⟩
 ):p:=h
theorem TX (h:p:=by
 cases ho;have aQ:=Am.lo 5 ah rfl;obtain⟨R0,R1,R2,R3⟩:=q8 Ll.out (ah3.out.trans (hb.mono ah3.out.size));exact TY
 ):p:=h
theorem Pz (h:p:=by
 have e:=xH (b:=b) af;have hd:=H.out;rw [if_neg af] at hd;refine⟨⟨pos+1,m*10+uS b,_,by simp,rfl,by omega,by omega,by rw [←e];exact hd.symm⟩, ?_⟩;exact Lz
 ):p:=h
theorem sx (h:p:=by
 subst hz;clear kf Js;go_wp2_with (go_at_call 174;((with_reducible refine(HK.out _).mono ?_));rintro e w' ⟨rfl,hb⟩;obtain⟨g2,rfl⟩:=aC hb;clear hb);go_ret;exact⟨rfl,tM⟩
 ):p:=h
theorem R6 (h:p:=by
 obtain⟨x,hx,h1,h2,hv⟩:=ic ht hn;exact afb
 ):p:=h
theorem QE (h:p:=by
 rw [dM,if_neg ni];exact ae9
 ):p:=h
theorem Qc (h:p:=by
 have e:gF s.data.toList=kZ s.data.toList 0:=by
  unfold gF;rw [if_neg,if_neg (fun h3=>by rw [h3] at hl;simp at hl;omega)];intro h3;rw [←kF s 2 af] at h3;rw [h3.2] at h2;cases h2
 rw [e];exact this
 ):p:=h
theorem TZ (h:p:=by
 exact ad8
 ):p:=h
theorem T3 (h:p:=by
 clear Ah;exact afc
 ):p:=h
theorem SH (h:p:=by
 generalize rD ds=z at*;have ahD:=hid NP;clear hR hrow sN hdb Lu Xf hrow2 NP;exact afd
 ):p:=h
theorem D1 (h:p:=by
 cases ho;have aQ:=Am.lo 3 ah rfl;have De:=amX.out _ _ _ hI;refine Am.rv rfl rfl (hK _ _ (hI.put aj aj) (fun _ _ _=>rfl) rfl) ?_;generalize ca.eval=ev at*;simp [go_sem,execOp,hfn,hcs,aQ,De]
 ):p:=h
theorem Pc (h:p:=by
 intro l a w hl hc h;refine⟨fun hn=>(nW l hl hn).elim,fun i hi=>?_⟩;rcases XB l hl i hi with hlt|rfl
 ·have:=(rdy l hl i hlt).1 hi;rw [h.1] at this;cases this
 ·exact fin 0 l a w hl (full l hl hc hi) h.2
 ):p:=h
theorem Rj (h:p:=by
 have Hb:=hid (hno (by simp [cD]));clear hno yM cD;exact afe
 ):p:=h
theorem T4 (h:p:=by
 have hr:R=[(sv,127 - sk)]:=by rw [Ki.out,if_neg g2];rfl
 subst hr;clear Ki;go_wp2;go_ret;exact⟨_,rfl,bA rj.out _,by have:=fT.one (B:=W.heap.size) (w:=wy2) sv (127 - sk) (rj.out.size);simpa using this⟩
 ):p:=h
theorem T5 (h:p:=by
 have hr:R=[(rv,127 - rk)]:=by rw [Ki.out,if_neg g2];rfl
 subst hr;clear Ki;go_wp2;go_ret;exact⟨_,rfl,bA rj.out _,by have:=fT.one (B:=W.heap.size) (w:=w1) rv (127 - rk) (rj.out.size);simpa using this⟩
 ):p:=h
theorem QF (h:p:=by
 have tQ:=hid pY;clear oZ pY;go_wp2;go_end0;refine⟨rfl, ?_⟩;have eP:=(Fk.out.later (jt W _ nq) pq).trans Fl.out|>.trans Nh.out
 rw [tQ.out];exact Mn
 ):p:=h
theorem S6 (h:p:=by
 go_wp2;go_ret;exact⟨by first|(rw [HD.out];rfl)|(rw [←List.map_dropLast,HD.out];rfl),dB⟩
 ):p:=h
theorem SL (h:p:=by
 cases ho;have aQ:=Am.lo 7 ah rfl;obtain⟨R0,R1,R2,R3⟩:=q8 HW6.out hb;exact TY
 ):p:=h
theorem Tk (h:p:=by
 exact aeJ
 ):p:=h
theorem T6 (h:p:=by
 clear hr;go_enter Tryz.func77,Tryz.ntmps77;go_wp2;go_quiet (fail);go_wp2
 try (go_quiet (fail))
 try go_wp2
 exact aff
 ):p:=h
theorem T7 (h:p:=by
 refine⟨_,hr,⟨by rw [hlen];simp;omega,fun a v j ha hv=>?_⟩,fun _ _ _ _=>by simp;omega,by simp⟩;rw [dz] at ha hv;split at ha
 ·rw [if_pos (by assumption)] at hv;exact h5 a v _ ha hv
 ·cases ha
 ):p:=h
theorem Kj (h:p:=by
 clear h0;exact Mo
 ):p:=h
theorem Kk (h:p:=by
 clear h1;exact Mo
 ):p:=h
theorem T8 (h:p:=by
 clear h2;exact Mo
 ):p:=h
theorem T9 (h:p:=by
 have hr:R=[(sv,sk)]:=by rw [Ki.out,if_neg g2];rfl
 subst hr;clear Ki;go_wp2;go_ret;exact⟨_,rfl,bA rj.out _,by have:=fT.one (B:=W.heap.size) (w:=wy2) sv sk (rj.out.size);simpa using this⟩
 ):p:=h
theorem PO (h:p:=by
 refine aI.val ⟨_,fun w=>?_,.ptr hk⟩;simp only [Instr.indexAt,Sem.run_bind,run_underlying hu,Result.andThen_ok,asIntOf,Sem.run_pure,hb,and_self,if_true,sizeOf,typeInfo,run_program,kO,fU]
 ):p:=h
theorem Py (h:p:=by
 have e:=xH (b:=b) af;have hd:=H.out;rw [if_pos af] at hd;exact ae6
 ):p:=h
theorem Ua (h:p:=by
 have hr:R=[(rv,rk)]:=by rw [Ki.out,if_neg g2];rfl
 subst hr;clear Ki;go_wp2;go_ret;exact⟨_,rfl,bA rj.out _,by have:=fT.one (B:=W.heap.size) (w:=w1) rv rk (rj.out.size);simpa using this⟩
 ):p:=h
theorem Qz (h:p:=by
 rw [dM,if_neg ni];rw [if_neg cX];exact afg
 ):p:=h
theorem iU (h:p:=by
 exact Mo
 ):p:=h
theorem Ub (h:p:=by
 have hg2:=dY W1 FB 5 v';exact afh
 ):p:=h
theorem Pg (h:p:=by
 rw [←heq] at key;have arZ:(Array.replicate ops.pop.size false).push false=Array.replicate ops.size false:=by
  rw [hsz];exact Array.replicate_succ.symm
 rw [arZ,←hsz] at key;exact key
 ):p:=h
theorem vw (h:p:=by
 cases ho;have aQ:=Am.lo 0 ah rfl;exact Mp
 ):p:=h
theorem Sr (h:p:=by
 cases ho;have aQ:=Am.lo 1 ah rfl;exact Mp
 ):p:=h
theorem Su (h:p:=by
 cases ho;have aQ:=Am.lo 2 ah rfl;exact Mp
 ):p:=h
theorem SE (h:p:=by
 refine⟨fun _ _=>trivial, ?_⟩;have hs:o.semAt Fence.wide.round ca.eval=execOp ca.eval o:=rfl;rw [hs,h];exact⟨(nomatch ·),hc.mono fun e w'' ⟨v,he,hk⟩=>by subst he;exact hk⟩
 ):p:=h
theorem P7 (h:p:=by
 have hd:=H.out;rw [if_pos af] at hd;go_ret2;exact⟨by rw [hd];rfl,Bv⟩
 ):p:=h
theorem Kb (h:p:=by
 exact afa
 ):p:=h
theorem SX (h:p:=by
 cases ho;have aQ:=Am.lo 4 ah rfl;refine Am.rv rfl rfl (hK _ _ (hI.other aj aj _) trivial rfl) ?_;exact zF
 ):p:=h
theorem SG (h:p:=by
 clear hR hrow sN hdb Lu Xf hrow2 NP hd0 e;exact afd
 ):p:=h
theorem QO (h:p:=by
 have:=bR (bR HF.out.blocks (au W (.map #[] 0))) (au (W.alloc (.map #[] 0)) (.cells #[.map (some W.heap.size)] 119));rw [Hsv.out,←HQ.out] at this;exact this
 ):p:=h
theorem Uc (h:p:=by
 have h3:=iZ.Ju (v':=.slice (some ⟨g3,0,none⟩) Q Me) (by have:=hrow;rw [HQ.out] at this ⊢;exact this);exact(h3.later (Below.refl _ _).drew).congr rfl rfl rfl rfl rfl
 ):p:=h
theorem Ud (h:p:=by
 go_wp2;go_ret;exact⟨by rw [←Bool.beq_eq_decide_eq];rfl,dB⟩
 ):p:=h
theorem R9 (h:p:=by
 rcases hx with h|h|h
 ·have:letters.all (fun c=>decide (c<128))=true:=by decide
  exact of_decide_eq_true (List.all_eq_true.1 this _ h)
 ·rw [h];decide
 ·rw [h];decide
 ):p:=h
theorem Ue (h:p:=by
 cases ho;have aQ:=Am.lk 67 11 ah fun _=>rfl
 exact Cl
 ):p:=h
theorem Kl (h:p:=by
 refine⟨rfl,vh cU adw.out rfl ?_⟩
 repeat (first|exact Below.refl _ _|exact HX.out|refine bG ?_ _|refine bI ?_ _ _|refine bA ?_ _|refine bD ?_|refine bN ?_ _)
 ):p:=h
theorem Uf (h:p:=by
 cases ho;have aQ:=Am.lk 59 3 ah fun _=>rfl
 exact Cl
 ):p:=h
theorem Dx (h:p:=by
 clear Zs;refine hB_ _ _ ?_;gi_wp2;go_ret;exact .inl ⟨rfl,by rw [Hr.out,List.append_nil];exact HJ.out _ _ _ Iw.out nE.out,Kt.jU nE.out HE.out.below.size HE.out.size⟩
 ):p:=h
theorem D2 (h:p:=by
 exact Ug
 ):p:=h
theorem Ro (h:p:=by
 cases hb:Nat.blt g lo.G with
 |true=>
  simp [CN,hb] at hv;subst hv;rw [blt_eq] at hb;exact .ptr (r:=0) (hold g (by simpa using hb))
 |false=>simp [CN,hb] at hv
 ):p:=h
theorem Uh (h:p:=by
 cases ho;have aQ:=Am.lk 66 10 ah fun _=>rfl
 exact Cm
 ):p:=h
theorem Ui (h:p:=by
 cases ho;have aQ:=Am.lk 68 12 ah fun _=>rfl
 exact Uj
 ):p:=h
theorem Uk (h:p:=by
 cases ho;have aQ:=Am.lk 58 2 ah fun _=>rfl
 exact Cm
 ):p:=h
theorem Ul (h:p:=by
 cases ho;have aQ:=Am.lk 60 4 ah fun _=>rfl
 exact Um
 ):p:=h
theorem Un (h:p:=by
 go_enter Tryz.func77,Tryz.ntmps77;go_wp2;go_quiet (fail);go_wp2;exact aff
 ):p:=h
theorem Uo (h:p:=by
 go_ret;have hbg:=pn.out.trans ((mM.out.trans ((below_grow w9 g).mono mM.out.size)).mono pn.out.size);exact⟨_,rfl,hbg.trans (amY.mono hbg.size),hrow.mono hbg.size⟩
 ):p:=h
theorem Qt (h:p:=by
 rw [dM,if_neg ni];exact afg
 ):p:=h
theorem Up (h:p:=by
 go_wp2_with (go_at_call 157;refine(aad n h0 h1 _ hl).mono ?_;rintro e w' ⟨rfl,hb⟩;obtain⟨g,rfl⟩:=aC hb;clear hb);go_ret;exact⟨rfl,bG (Below.refl _ _) _⟩
 ):p:=h
theorem Qe (h:p:=by
 have e:gF s.data.toList=kZ s.data.toList 0:=by
  unfold gF;rw [if_neg af,if_neg (fun h3=>by rw [h3] at hl;simp at hl;omega)]
 rw [e];exact this
 ):p:=h
theorem Jy (h:p:=by
 exact afe
 ):p:=h
theorem S8 (h:p:=by
 have j1:¬(j:Int)<(j:Int):=af;clear hJ hR;go_wp2;go_roundw
 case rel=>exact⟨j+1,_,by go_num,by omega,rfl,HN⟩
 case measure=>simp [intOf];omega
 ):p:=h
theorem C0 (h:p:=by
 go_enter Tryz.func76,Tryz.ntmps76;exact afi
 ):p:=h
theorem Uq (h:p:=by
 go_wp2;go_ret;exact⟨by rw [HD.out];rfl,dB⟩
 ):p:=h
theorem Sa (h:p:=by
 constructor
 ·rintro(h|h)
  ·exact .inl (UInt8.toNat_inj.1 h)
  ·exact .inr (UInt8.toNat_inj.1 h)
 ·rintro(h|h)<;>rw [h]
  ·exact .inl rfl
  ·exact .inr rfl
 ):p:=h
theorem Qb (h:p:=by
 rw [ByteArray.toList_eq];cases e:s.data.toList with
 |nil=>rfl
 |cons x l=>
  have:s.data.toList.length=s.size:=ak;rw [e] at this;simp at this;omega
 ):p:=h
theorem Ur (h:p:=by
 clear JQ hS;go_wp2_with (at_len;refine wpList_len_own _ rfl _ 119 rfl 9 3 Tryz.underlying119 _ w.heap.size k D rfl hown ?_);go_ret;exact⟨by rw [hres.out];rfl,ct⟩
 ):p:=h
theorem Sy (h:p:=by
 have h1:Nat.mod (2*j+1) 2=1:=by show(2*j+1) % 2=1;omega
 have h2:Nat.div (2*j+1) 2=j:=by show(2*j+1) / 2=j;omega
 rw [h1,h2];rfl
 ):p:=h
theorem Us (h:p:=by
 exact afj
 ):p:=h
theorem D3 (h:p:=by
 cases ho;have aQ:=Am.lo 9 ah rfl;refine Am.rv rfl rfl (hK _ _ (Below.refl _ _) rfl) ?_;generalize ca.eval=ev at*;simp [go_sem,execOp,hfn,hcs,aQ,hcE]
 ):p:=h
theorem Dk (h:p:=by
 exact aeL
 ):p:=h
theorem Ut (h:p:=by
 clear hr;exact afk
 ):p:=h
theorem Tl (h:p:=by
 have H9:=hid h9;clear h9;clear hno yM cD;go_wp2;go_roundw
 case rel=>exact⟨k+1,g9,by omega,by go_num,H9.out,Hy⟩
 case measure=>simp [intOf];omega
 ):p:=h
theorem Re (h:p:=by
 rw [Hck.out,if_neg];intro hr;unfold p7 at hr;rw [List.all_eq_true] at hr;have:=hr k (List.mem_range.2 oK);rw [←kH.out,←Hub.out] at this;exact h this
 ):p:=h
theorem Uu (h:p:=by
 clear Hr;rw [JN.out];go_wp2;go_ret;exact⟨by rw [HR.out];rfl,eK⟩
 ):p:=h
theorem Sq (h:p:=by
 refine Am.rv rfl rfl (hK _ _ (hI.put aj aj) (fun _ _ _=>rfl) rfl) ?_;generalize ca.eval=ev at*;simp [go_sem,execOp,hfn,hcs,aQ,hc3]
 ):p:=h
theorem Ss (h:p:=by
 refine Am.rv rfl rfl (hK _ _ (hI.put aj aj) (fun _ _ _=>rfl) rfl) ?_;generalize ca.eval=ev at*;simp [go_sem,execOp,hfn,hcs,aQ,hc4]
 ):p:=h
theorem Km (h:p:=by
 exact afl
 ):p:=h
theorem D4 (h:p:=by
 exact TI
 ):p:=h
theorem oy (h:p:=by
 exact L6
 ):p:=h
theorem D5 (h:p:=by
 exact Gx
 ):p:=h
theorem sV (h:p:=by
 cases ho;have aQ:=Am.lo 3 ah rfl;exact rG
 ):p:=h
theorem Jp (h:p:=by
 cases ho;have aQ:=Am.lo 1 ah rfl;exact rG
 ):p:=h
theorem r9 (h:p:=by
 cases ho;have aQ:=Am.lo 2 ah rfl;exact rG
 ):p:=h
theorem S7 (h:p:=by
 clear hJ;go_wp2;go_quiet (fail);go_wp2;go_roundw
 case rel=>exact⟨j+1,_,by go_num,by omega,JY _ _ _,Hne⟩
 case measure=>simp [intOf];omega
 ):p:=h
theorem Kn (h:p:=by
 exact aeS
 ):p:=h
theorem dJ (h:p:=by
 exact Mp
 ):p:=h
theorem Uv (h:p:=by
 exact afk
 ):p:=h
theorem Q5 (h:p:=by
 clear jx bW;exact adi
 ):p:=h
theorem Ko (h:p:=by
 exact Uw
 ):p:=h
theorem D6 (h:p:=by
 obtain⟨h3,rfl⟩:=pure_run h2;cases h3;cases ce<;>simp only [CP] at xj<;>first|exact xj.elim|skip
 exact hQ E1 _ qD w1 hx1 trivial ha1 jX
 ):p:=h
theorem Tq (h:p:=by
 rcases hF.blocks.2 with⟨e1,e2⟩|⟨g,cap,cur,e1,_⟩
 ·exact⟨none,0,by rw [e1,EC,←lV,e2]⟩
 ·exact⟨_,_,by rw [EC,←lV];exact e1⟩
 ):p:=h
theorem Ux (h:p:=by
 cases ho;have aQ:=Am.lo 7 ah rfl;exact afm
 ):p:=h
theorem Qd (h:p:=by
 have e:gF s.data.toList=none:=by
  unfold gF;rw [if_neg af,if_pos (List.eq_nil_of_length_eq_zero af)]
 rw [e];exact this
 ):p:=h
theorem zG (h:p:=by
 obtain⟨h3,rfl⟩:=pure_run h2;cases h3;cases ce<;>simp only [CP] at xj<;>first|exact xj.elim|skip
 exact hQ E1 _ qD w1 hx1 xj ha1 jX
 ):p:=h
theorem Sx (h:p:=by
 have h1:Nat.mod (2*j) 2=0:=Nat.mul_mod_right 2 j;have h2:Nat.div (2*j) 2=j:=Nat.mul_div_cancel_left j aj;rw [h1,h2];rfl
 ):p:=h
theorem Uy (h:p:=by
 exact ael
 ):p:=h
theorem RM (h:p:=by
 have h3:=List.all_eq_true.1 h2 _ hm;simp only [Array.all_eq_true_iff_forall_mem] at h3;have h4:=h3 e he;rw [hb,blt_eq] at h4;simpa using h4
 ):p:=h
theorem Uz (h:p:=by
 exact aem
 ):p:=h
theorem ah4 (h:p:=by
 have h1:=Od.out;have h2:u.toNat<ds.length:=af;rw [List.getD,List.getElem?_eq_getElem h2];exact Hdb.out _ (List.getElem_mem h2)
 ):p:=h
theorem UA (h:p:=by
 go_ret;have hbg:=pn.out.trans ((mM.out.trans ((below_grow w9 g).mono mM.out.size)).mono pn.out.size);exact⟨_,rfl,hbg,fT.empty _ _⟩
 ):p:=h
theorem Qk (h:p:=by
 have h6:k=0∨k=1∨k=2∨k=3∨k=4∨k=5∨k=6:=af;rcases h6 with rfl|rfl|rfl|rfl|rfl|rfl|rfl<;>decide
 ):p:=h
theorem RQ (h:p:=by
 intro n hg;cases n with
 |zero=>simp [gL] at hg
 |succ n=>rw [VR.RP (E:=E) h1 hg fun a c j ha hc hga=>ih a c j ha hc n hga]
 ):p:=h
theorem UC (h:p:=by
 go_wp2;go_quiet (fail);go_wp2;go_ret;exact⟨by rw [Bu.out Hd.out];rfl,by first|exact⟨_,rfl⟩|exact⟨_,World.drewN_drewN _ _ _⟩⟩
 ):p:=h
theorem Qq (h:p:=by
 rw [dM,if_neg ni];rw [if_neg cX];rw [if_neg cX];rw [if_pos az]
 ):p:=h
theorem UD (h:p:=by
 by_cases hk:k=i
 ·subst hk;simp [hi']
 ·have hne:¬i=k:=fun h=>hk h.symm
  simp [Array.getElem?_setIfInBounds,hne,hk]
 ):p:=h
theorem Sj (h:p:=by
 split at h<;>first|exact h|exact(fun⟨U,e,hN,hh⟩=>⟨U,e,hN,(hS U hN (Array.getElem?_eq_some_iff.1 hh).1).trans hh⟩) h
 ):p:=h
theorem QM (h:p:=by
 refine⟨none,0,by rw [h1,h2],by omega,by unfold maxLen;omega, ?_⟩;obtain rfl:k=0:=af;exact⟨rfl,.inl ⟨rfl,rfl⟩⟩
 ):p:=h
theorem ah5 (h:p:=by
 unfold mW;rw [HAl.out,if_neg lM,if_neg nS,List.getD,List.getElem?_eq_getElem hpl];exact Gi
 ):p:=h
theorem QN (h:p:=by
 rcases hF.blocks.2 with⟨e1,e2⟩|⟨g,cap,cur,e1,_⟩
 ·exact⟨none,0,by rw [e1,hQ,e2]⟩
 ·exact⟨_,_,by rw [hQ];exact e1⟩
 ):p:=h
theorem Kq (h:p:=by
 refine Am.rv rfl rfl (hK _ _ (Below.refl _ _) rfl) ?_;generalize ca.eval=ev at*;simp [go_sem,execOp,hfn,hcs,aQ,oK,D7]
 ):p:=h
theorem Kr (h:p:=by
 have e0:fV ns (ns[n].kids.take 1)=wt ns z0:=UE;omega
 ):p:=h
theorem RR (h:p:=by
 by_cases e:i=s.next
 ·subst e;exact .inr ⟨Nat.le_refl _,by omega⟩
 ·simp [Env.put,e] at hi;exact .inl rZ
 ):p:=h
theorem y9 (h:p:=by
 exact aep
 ):p:=h
theorem DV (h:p:=by
 rcases nU.ends with⟨rfl,_⟩|⟨rfl,_⟩
 ·have HE:=hid nU;clear hE nU;go_wp2;go_end0;exact HE.out
 ·exact⟨rfl,nU⟩
 ):p:=h
theorem UF (h:p:=by
 go_ret;exact⟨by rw [Hp.out];rfl,eK⟩
 ):p:=h
theorem PK (h:p:=by
 rcases cs with _|⟨v0,_|⟨v1,_|⟨v2,_|⟨v3,_|⟨v4,cs⟩⟩⟩⟩⟩<;>first|(simp at hl;done)|exact⟨v0,v1,v2,v3,rfl⟩
 ):p:=h
theorem Tn (h:p:=by
 rw [cell_of_row W g (i*4+j) cur 114 (0,0) hh,←uW vs i hi j hj,←uV,List.getElem?_take,if_pos af];simp
 ):p:=h
theorem Sl (h:p:=by
 rcases(hF.rows.rows 1 _ _ rfl rfl).2 with⟨e1,e2⟩|⟨g,cap,cur,e1,_⟩
 ·exact Fq
 ·exact⟨_,_,e1⟩
 ):p:=h
theorem Pm (h:p:=by
 cases nx<;>simp only [NR] at uK<;>first|exact uK.elim|skip
 ·exact key _ uK
 ·subst uK;exact key _ (VR.undef E1)
 ):p:=h
theorem Ks (h:p:=by
 exact afn
 ):p:=h
theorem UG (h:p:=by
 rw [hb];clear h0 h1 h2 h3 h4 h5 h6 h7 h8 h9 hb;go_enter Tryz.func181,Tryz.ntmps181;exact zH
 ):p:=h
theorem UH (h:p:=by
 rw [hb];clear h0 h1 h2 h3 h4 h5 h6 h7 h8 h9 hb;go_enter Tryz.func114,Tryz.ntmps114;exact zH
 ):p:=h
theorem D8 (h:p:=by
 refine Am.rv rfl rfl (hK _ _ (Below.refl _ _) rfl) ?_;generalize ca.eval=ev at*;simp [go_sem,execOp,hfn,hcs,aQ,hc8]
 ):p:=h
theorem D9 (h:p:=by
 refine Am.rv rfl rfl (hK _ _ (Below.refl _ _) rfl) ?_;generalize ca.eval=ev at*;simp [go_sem,execOp,hfn,hcs,aQ,eA]
 ):p:=h
theorem ah6 (h:p:=by
 have:s.data.toList[0]'(by rw [jf];exact dL)=b:=by simp [hbt]
 rw [←this];simp [ByteArray.getElem_eq_getElem_data]
 ):p:=h
theorem Rn (h:p:=by
 cases hg:gL 3 u with
 |true=>simp [CN,hg] at hv;subst hv;exact dF E 3 u hg
 |false=>simp [CN,hg] at hv
 ):p:=h
theorem Ri (h:p:=by
 clear hno yM cD;go_wp2;go_round
 case rel=>exact⟨k+1,by omega,by go_num,Hy⟩
 case measure=>simp [intOf];omega
 ):p:=h
theorem ah7 (h:p:=by
 have:=Od.out;rw [uw.out,List.getElem?_append_left af,List.getD,List.getElem?_eq_getElem af];rfl
 ):p:=h
theorem SR (h:p:=by
 go_wp2;go_end0;exact Rx
 ):p:=h
theorem Pw (h:p:=by
 go_wp2;go_ret;exact Rx
 ):p:=h
theorem I3 (h:p:=by
 rw [ByteArray.toList_eq];cases e:s.data.toList==qR with
 |true=>exact absurd (eq_of_beq e) h0
 |false=>exact e
 ):p:=h
theorem Dc (h:p:=by
 exact rG
 ):p:=h
theorem UI (h:p:=by
 have hr:R=[]:=by rw [Ki.out,if_pos g2]
 subst hr;clear Ki;go_wp2;go_ret;exact⟨_,rfl,rj.out,fT.empty _ _⟩
 ):p:=h
theorem Rb (h:p:=by
 have h:=hR.out.2;rw [show ns.drop n=[] by rw [HL.out,List.drop_length]] at h;unfold bg;rw [←HL.out,←h];rfl
 ):p:=h
theorem I0 (h:p:=by
 obtain⟨h3,rfl⟩:=pure_run h2;cases h3;cases ce<;>first|exact k2.elim|exact hQ E1 _ qD um1 w1 k1 k2 k3 k4 k5
 ):p:=h
theorem UJ (h:p:=by
 obtain⟨es,uZ,hh⟩:=(h.maps i b nm a e).map;exact(h.maps i b nm a e).kept hg fun e2=>kK h.vars hh e2.symm
 ):p:=h
theorem UK (h:p:=by
 go_roundw
 case rel=>exact⟨k+1,_,by go_num,rfl,by omega,hid Hp.out.symm⟩
 case measure=>simp [intOf];omega
 ):p:=h
theorem Si (h:p:=by
 cases hv:v0.ownBlock with
 |none=>exact .inl rfl
 |some g=>exact .inr fun e=>qq hI h.vars g e.symm hv
 ):p:=h
theorem QD (h:p:=by
 have e:((z1:Int)).toNat=z1:=rfl;have e2:((z0:Int)).toNat=z0:=rfl;rw [e] at oH;rw [e2] at Bx;omega
 ):p:=h
theorem SY (h:p:=by
 generalize ca.eval=ev at*;simp [go_sem,execOp,hfn,hcs,aQ,nV,hR0,jX,qZ,hR3,hRf,hS0,hS1,JQ,hS3]
 ):p:=h
theorem UL (h:p:=by
 exact afo
 ):p:=h
theorem ye (h:p:=by
 rw [ByteArray.toList_eq];cases e:s.data.toList with
 |nil=>rw [e] at hl;simp at hl;omega
 |cons x l=>rfl
 ):p:=h
theorem Rh (h:p:=by
 by_cases EG:m<k
 ·exact hK.out m EG
 ·obtain rfl:m=k:=by omega
  rw [←kH.out,←Hub.out];exact h
 ):p:=h
theorem vG (h:p:=by
 exact afm
 ):p:=h
theorem UM (h:p:=by
 exact((((hsc.set af 0 _).set af 1 _).set af 2 _).set af 3 _).mono af
 ):p:=h
theorem UN (h:p:=by
 obtain⟨rfl,nH⟩:=hE.2 h1;exact⟨rfl,fun h=>absurd h h1,fun _=>⟨rfl,(vE.out.2.trans nH).weak⟩⟩
 ):p:=h
theorem Pt (h:p:=by
 cases ce<;>simp only [CP] at xj<;>first|exact xj.elim|skip
 exact leave .ret .returning trivial h2
 ):p:=h
theorem Pp (h:p:=by
 cases ce<;>first|exact k2.elim|exact⟨hdd,OT,rfl,_,MR hsz.2 _ _,E',_,rfl,k1,k4,k5⟩
 ):p:=h
theorem ah8 (h:p:=by
 exact ad6
 ):p:=h
theorem Rk (h:p:=by
 unfold p7;rw [List.all_eq_true];intro m hm;exact hK.out m (by rw [HL.out];exact List.mem_range.1 hm)
 ):p:=h
theorem ah9 (h:p:=by
 cases h:s.data.toList with
 |nil=>rw [h] at jf;simp at jf;omega
 |cons b t=>exact⟨b,t,rfl⟩
 ):p:=h
theorem Pa (h:p:=by
 obtain⟨_,o,ho,_⟩:=mem_ready.1 hi;have:=(Array.getElem?_eq_some_iff.1 ho).1;simp at this;omega
 ):p:=h
theorem Ea (h:p:=by
 rintro e w' ⟨v,rfl,hb',hi⟩;exact⟨_,rfl,hK _ _ hb' (hi.mono (Nat.le_trans r8.out.size hb.size))⟩
 ):p:=h
theorem UO (h:p:=by
 obtain⟨x1,x2,x3,_⟩:=jO (gH.rows.rows 0 _ _ rfl rfl) (Nat.le_refl _);exact⟨_,_,_,x3⟩
 ):p:=h
theorem UQ (h:p:=by
 obtain⟨x1,x2,x3,_⟩:=jO (gH.rows.rows 1 _ _ rfl rfl) (Nat.le_refl _);exact⟨_,_,_,x3⟩
 ):p:=h
theorem UR (h:p:=by
 obtain⟨x1,x2,x3,_⟩:=jO (gH.rows.rows 2 _ _ rfl rfl) (Nat.le_refl _);exact⟨_,_,_,x3⟩
 ):p:=h
theorem UT (h:p:=by
 cases hx;exact aI.val ⟨_,fun w=>by simp [Builtin.len_,ht,run_underlying hu,goInt],.int _ _⟩
 ):p:=h
theorem UU (h:p:=by
 cases hx;exact aI.val ⟨_,fun w=>by simp [Builtin.cap_,ht,run_underlying hu,goInt],.int _ _⟩
 ):p:=h
theorem Qs (h:p:=by
 rw [dM,if_neg ni];rw [if_neg cX];rw [if_pos az]
 ):p:=h
theorem UW (h:p:=by
 rcases gH.vars.2 with⟨e1,_⟩|⟨g,cap,cur,e1,_⟩
 ·exact⟨_,_,_,e1⟩
 ·exact⟨_,_,_,e1⟩
 ):p:=h
theorem Sc (h:p:=by
 rw [List.getElem?_eq_getElem (by rw [Hfl.out];exact h)];exact Gi
 ):p:=h
theorem Sd (h:p:=by
 cases e:(((f[pos]).toNat:Int)==42) with
 |false=>rfl
 |true=>have:=eq_of_beq e;omega
 ):p:=h
theorem Sg (h:p:=by
 cases e:(((f[pos]).toNat:Int)==46) with
 |false=>rfl
 |true=>have:=eq_of_beq e;omega
 ):p:=h
theorem Sw (h:p:=by
 cases e:(((m - F:Nat):Int)==0) with
 |false=>rfl
 |true=>have:=eq_of_beq e;omega
 ):p:=h
theorem QS (h:p:=by
 intro j q hj;cases j with
 |zero=>simp at hj;subst hj;simp [go_sem]
 |succ j=>simp at hj
 ):p:=h
theorem UX (h:p:=by
 rcases vp with e|e
 ·left;rw [←e];exact hg2
 ·right;rw [e] at hg2;cases hg2;exact hs
 ):p:=h
theorem UY (h:p:=by
 intro ca w1 f hI hall hd hs aT bp;have:=hall 6 aj;rw [hI.1] at this;cases this
 ):p:=h
theorem Rp (h:p:=by
 rw [hy];cases nA ops a j with
 |none=>rfl
 |some b=>cases b<;>cases want<;>rfl
 ):p:=h
theorem S5 (h:p:=by
 rw [List.getElem?_eq_getElem pE,←Hgj.out];simp [List.getD,List.getElem?_eq_getElem pE]
 ):p:=h
theorem Ku (h:p:=by
 exact afp
 ):p:=h
theorem zg (h:p:=by
 rcases g2.2 with⟨e1,_⟩|⟨g,cap,cur,e1,_⟩
 ·exact⟨_,_,_,e1⟩
 ·exact⟨_,_,_,e1⟩
 ):p:=h
theorem Sb (h:p:=by
 rcases hx with h|h|h
 ·exact h
 ·exact absurd (.inl h) hcs
 ·exact absurd (.inr h) hcs
 ):p:=h
theorem CT (h:p:=by
 rw [ByteArray.toList_eq,ByteArray.toList_eq,hS1];exact(Bool.beq_eq_decide_eq _ _).symm
 ):p:=h
theorem UZ (h:p:=by
 have:¬(true=true∧0≤n∧n<ns.length):=vg;simp only [true_and] at this;omega
 ):p:=h
theorem U0 (h:p:=by
 cases ho;have h9:=T2.inv.1 0 aj;exact mq
 ):p:=h
theorem U1 (h:p:=by
 cases ho;have h9:=T2.inv.1 1 aj;exact mq
 ):p:=h
theorem U2 (h:p:=by
 cases ho;have h9:=T2.inv.1 2 aj;exact mq
 ):p:=h
theorem U3 (h:p:=by
 cases ho;have h9:=T2.inv.1 3 aj;exact mq
 ):p:=h
theorem U4 (h:p:=by
 cases ho;have h9:=T2.inv.1 4 aj;exact mq
 ):p:=h
theorem U5 (h:p:=by
 cases ho;have h9:=T2.inv.1 5 aj;exact mq
 ):p:=h
theorem U6 (h:p:=by
 cases ho;have h9:=T2.inv.1 6 aj;exact mq
 ):p:=h
theorem U7 (h:p:=by
 rcases List.mem_append.1 hd with h|h
 ·have:=Hdb.out d h;omega
 ·simp at h;omega
 ):p:=h
theorem Tx (h:p:=by
 go_wp2;go_quiet (fail);go_wp2;go_ret;exact⟨⟨gv,vc,Hgv.out,xA,rfl⟩,vE.out _⟩
 ):p:=h
theorem zh (h:p:=by
 generalize ca.eval=ev at*;simp [execOp,resolve,invoke,builtin,aQ,hb',hr]
 ):p:=h
theorem DI (h:p:=by
 generalize ca.eval=ev at*;simp [go_sem,execOp,hfn,hcs,aQ,Zw,hfr,hoc]
 ):p:=h
theorem Eb (h:p:=by
 exact Gw
 ):p:=h
theorem fj (h:p:=by
 cases ho;exact Bool.noConfusion ((T.ahead 6 ai).symm.trans T.inv.1)
 ):p:=h
theorem oz (h:p:=by
 go_enter Tryz.func181,Tryz.ntmps181;exact zH
 ):p:=h
theorem oA (h:p:=by
 go_enter Tryz.func114,Tryz.ntmps114;exact zH
 ):p:=h
theorem U8 (h:p:=by
 generalize kL.eval=ev at*;simp [go_sem,execOp,hfn,hcs,h77,h81,h82]
 ):p:=h
theorem Kv (h:p:=by
 exact U9
 ):p:=h
theorem Jg (h:p:=by
 exact⟨none,0,by rw [h1,h2],.inl (List.length_eq_zero_iff.1 h2)⟩
 ):p:=h
theorem yC (h:p:=by
 exact zF
 ):p:=h
theorem rO (h:p:=by
 simp [Array.getElem?_replicate] at hj;split at hj<;>simp at hj
 ):p:=h
theorem Qi (h:p:=by
 have HPE:=hid nU;clear hE nU h1;go_wp2;go_end0;exact HPE.out
 ):p:=h
theorem RI (h:p:=by
 have:=(Array.getElem?_eq_some_iff.1 ha).1;simpa using this
 ):p:=h
theorem zi (h:p:=by
 generalize ca.eval=ev at*;simp [go_sem,execOp,hfn,hcs]
 ):p:=h
theorem DC (h:p:=by
 have:=hI.heap;rw [hf2] at this;simp [World.cell?,this]
 ):p:=h
theorem uY (h:p:=by
 exact Mn
 ):p:=h
theorem Dj (h:p:=by
 rw [toList_madeCells_one,List.map_replicate]
 ):p:=h
theorem yB (h:p:=by
 split at h<;>first|exact h|exact h
 ):p:=h
theorem yV (h:p:=by
 split at h<;>first|exact h|trivial
 ):p:=h
theorem yb (h:p:=by
 rw [List.drop_eq_getElem_cons hk];rfl
 ):p:=h
theorem amC (h:p:=by
 intro kq o ca w1 f ho hI NG NH ah K hK;have hc5:w1.cell? ⟨FB,5,none⟩=some u4:=Ca;have hc1:w1.cell? ⟨FB,1,none⟩=some q0:=Ca;have hfn:∀f,ca.eval (.func f)=.func (.func f) #[] #[]:=fun _=>rfl
 have hcs:∀v,ca.eval (.const v)=v:=fun _=>rfl
 rcases kq with _|_|_|_|_|_|_|_|_|_|_|_|_|kq
 ·exact aia
 ·exact aia
 ·cases ho;have aQ:=Am.lk 53 1 ah fun _=>rfl
  exact Va
 ·cases ho;have aQ:=Am.lk 54 2 ah fun _=>rfl
  exact Va
 ·cases ho;have aQ:=Am.lk 55 3 ah fun _=>rfl
  refine Am.rv rfl rfl (hK _ _ (hI.put aj aj) Mq rfl) ?_;generalize ca.eval=ev at*;simp [go_sem,execOp,hfn,hcs,aQ,hc5]
 ·exact aia
 ·cases ho;have aQ:=Am.lk 57 5 ah fun _=>rfl
  exact Va
 ·cases ho;have aQ:=Am.lk 58 6 ah fun _=>rfl
  exact Va
 ·cases ho;have aQ:=Am.lk 59 7 ah fun _=>rfl
  exact Va
 ·cases ho;have aQ:=Am.lk 60 8 ah fun _=>rfl
  refine Am.rv rfl rfl (hK _ _ (hI.put aj aj) Mq rfl) ?_;generalize ca.eval=ev at*;simp [go_sem,execOp,hfn,hcs,aQ,hc1]
 ·cases ho;have aQ:=Am.lk 61 9 ah fun _=>rfl
  refine Am.rv rfl rfl (hK _ _ (hI.put aj aj) Mq rfl) ?_;generalize ca.eval=ev at*;simp [go_sem,execOp,hfn,hcs,aQ,←yz]
 ·cases ho;have aQ:=Am.lk 62 10 ah fun _=>rfl
  refine Am.aD rfl rfl (Am.aU (v:=.slice (some ⟨w1.heap.size,0,none⟩) 1 1) (w':=w1.alloc (.cells #[.int .i64 (y.vars.length:Int)] 3)) ?_ (hK _ _ ((hI.alloc DA _).put (k:=11) aj aj) (by unfold wM;rw [if_neg aj];exact(Below.refl _ _).alloc (Nat.le_refl _) _) ⟨w1.heap.size,rfl,heap_alloc_new _ _⟩));exact wO
 ·cases ho;have aQ:=Am.lk 56 4 ah fun _=>rfl
  have h63:∃U:Nat,(ca.tmps.getD 63 undef)=.slice (some ⟨U,0,none⟩) 1 1∧w1.heap[U]?=some (.cells #[.int .i64 (y.vars.length:Int)] 3 (0,0)):=Am.aV (j:=11) ah ai rfl rfl;obtain⟨U,e63,hU⟩:=h63;have ahm:=Am.aS e63;have hV:=hI.Ak NG;have hI3:=hV.rows.rows 3 _ _ rfl rfl;obtain⟨iI,Ao,Ap,Aq,Ar⟩:=info_parts Tryz.rB;obtain⟨v',w',hr,g2,g3,g4⟩:=di (P:=Tryz.prog) w1 (FB+1) 26 26 3 iI (.int .i64 0) 1 8 Tryz.underlying26 Ao Ap Aq Ar rfl aj u4 y.seen.length (y.seen.map (Value.int .i64)) hI3 ⟨U,0,none⟩ 1 1 aj [.int .i64 (y.vars.length:Int)] ak
   (fun j q hj=>by
    cases j with
    |zero=>simp at hj;subst hj;simp [Addr.add,World.cell?,hU]
    |succ j=>simp at hj) (fun q hq=>by simp at hq;subst hq;rfl) lf af (by have:=hV.lt;omega)
  have Lb:Ints (FB+1) w' v' (y.seen++[(y.vars.length:Int)]):=B9;refine Am.aD rfl rfl (Am.aU (v:=v') (w':=w') ?_ (hK _ _ (hI.appended g3 Lb g4 NG hI.len) (by unfold wM;rw [if_pos rfl];trivial) trivial));generalize ca.eval=ev at*;simp [execOp,resolve,invoke,builtin,aQ,ahm,hr]
 ·simp at ho
 ):p:=h
theorem amI (h:p:=by
 subst bf;simp only [List.setIfInBounds_toArray,List.set_cons_succ,List.set_cons_zero];have hW5:=hid hI;obtain⟨ao,an5,ac5,rfl⟩:∃ao n' cap',q4'=.slice ao n' cap':=by
  rcases(m1.rows 3 _ _ rfl rfl).2 with⟨e1,_⟩|⟨g,cap,cur,e1,_⟩
  ·exact⟨_,_,_,e1⟩
  ·exact⟨_,_,_,e1⟩
 have M1:=hid m1;have M2:=hid m2;have c15:w5.cell? ⟨FB,1,none⟩=some q0:=Ca;have c55:w5.cell? ⟨FB,5,none⟩=some u4:=Ca;have f55:w5.frozen? ⟨FB,5,none⟩=false:=Cb;have hh5:=hid hI.heap;clear hI m1 m2 hd hs aT bp h52 hall amZ;simp only [Am.gI];go_wp2;simp only [Am.gI];go_wp2;simp only [Am.gI];have h6:cC FB p c ns.length (w5.setCell ⟨FB,5,none⟩ (.slice ao an5 ac5)) {y with seen:=y.seen++[(y.vars.length:Int)]} q0 u1 u2 u3 (.slice ao an5 ac5) u5:=cC.aib hh5.out M1.out M2.out;have hP6:FP FB p c ns.length {y with seen:=y.seen++[(y.vars.length:Int)]} W (w5.setCell ⟨FB,5,none⟩ (.slice ao an5 ac5)):=HP4.out.trans (h6.fp (hW5.out.below.setCell (p:=⟨FB,5,none⟩) (Nat.le_refl _) _) (hW5.out.keep.trans (ew 5 _)) (by simpa using hW5.out.size));have H6:=hid h6;have HP6:=hid hP6;have hs5:FB<w5.heap.size:=by have:=h6.lt;simpa using this
 obtain⟨iV,hiV,zV0,zV1,zV2⟩:=info_parts Tryz.Vb;clear h6 hP6 hh5 M1 M2 hW5 HP4 H4;go_wp2_with (at_builtin;go_loud (refine cT _ rfl _ _ 25 rfl (FB+1) 114 iV _ 4 24 Tryz.underlying25 hiV zV0 zV1 zV2 rfl aj q0 y.vars.length (cx y.vars) rfl ?yH ⟨w5.heap.size,0,none⟩ 1 1 aj [.int .i64 n,.int .i64 fn,.bool false,.bool false] rfl rfl ?BD Fx ?Yb ?su ?pZ ?p4))
 case yH=>exact bR H6.out.vars (bA (Below.refl _ _) _)
 case BD=>exact World.news_of_block (cs:=#[.int .i64 (n:Int),.int .i64 (fn:Int),.bool false,.bool false]) (t:=114) (fr:=(0,0)) (by have:=heap_alloc_new (w5.setCell ⟨FB,5,none⟩ (.slice ao an5 ac5)) (.cells #[.int .i64 (n:Int),.int .i64 (fn:Int),.bool false,.bool false] 114);simpa using this)
 case Yb=>unfold maxLen;omega
 case su=>omega
 case pZ=>simp;omega
 case p4=>
  intro v' W1 k1 k2 k3;have IE:Below (w5.setCell ⟨FB,5,none⟩ (.slice ao an5 ac5)).heap.size (w5.setCell ⟨FB,5,none⟩ (.slice ao an5 ac5)) ((w5.setCell ⟨FB,5,none⟩ (.slice ao an5 ac5)).alloc (.cells #[.int .i64 (n:Int),.int .i64 (fn:Int),.bool false,.bool false] 114)):=(Below.refl _ _).alloc (Nat.le_refl _) _;have h7:=H6.out.later IE;have F0:cx (y.vars++[⟨n,fn,false,false⟩])=cx y.vars++[.int .i64 n,.int .i64 fn,.bool false,.bool false]:=zI _ _;have Fi:W1.ownsRow (FB+1) 114 4 v' (y.vars++[⟨n,fn,false,false⟩]:List Vr).length (cx (y.vars++[⟨n,fn,false,false⟩])):=by rw [F0,List.length_append];exact k1
  have hh:=h7.heap;have hne:=iL h7.vars h7.heap aj;have hh1:W1.heap[FB]?=some (.cells #[.slice p ns.length c,q0,u1,u2,u3,.slice ao an5 ac5,u5,.int .i64 y.bE,.int .i64 y.e] 63 (0,0)):=by rw [k2.block FB h7.lt (fun e=>hne e.symm)];exact hh
  have h8:=h7.zJ k2 Fi;have o9:∀k,q0.ownBlock=some k→FB≤k:=fun k hk=>by have:=(h7.vars.lt k hk).1;omega
  have hP8:FP FB p c ns.length {y with seen:=y.seen++[(y.vars.length:Int)],vars:=y.vars++[⟨n,fn,false,false⟩]} W (W1.setCell ⟨FB,1,none⟩ v'):=
   (HP6.out.later IE bt).trans (h8.fp (((Below.refl FB _).grown k2 (by have:=h7.lt;omega) o9).setCell (p:=⟨FB,1,none⟩) (Nat.le_refl _) _) ((Ec h7.vars k2).trans (ew 1 _)) (by simpa using k2.size))
  have c1w:W1.cell? ⟨FB,1,none⟩=some q0:=by simp [World.cell?,hh1]
  have f1w:W1.frozen? ⟨FB,1,none⟩=false:=by simp [World.frozen?,hh1]
  obtain⟨vo,vn,vc,rfl⟩:∃vo vn vc,v'=.slice vo vn vc:=by
   exact afp
  have HP8:=hid hP8;clear hP8 h8 h7 hh hh1 k1 Fi k2 k3 IE F0 hne o9;go_wp2;go_end0;refine⟨rfl, ?_⟩;have:=HP8.out;rw [jc.out];rw [Hy.out] at this;exact this
 ):p:=h
theorem amP (h:p:=by
 go_wp2;go_loopw [9,66] (fun av cv wr=>∃(j:Nat) (g2:gQ),av=.int .i64 ((bE+j:Nat):Int)∧cv=.int .i64 j∧wr=grow (w.iter f (pos+1)) g2∧j≤1∧Hid ((((ks.drop bE).drop j).take (1 - j)).all (fun k=>pL k c1)=((ks.drop bE).take 1).all (fun k=>pL k c1))) (fun _ cv _=>1 - (intOf cv).toNat)
 case atStart=>exact⟨0,g,by simp,rfl,rfl,by omega,rfl⟩
 case round=>
  obtain⟨j,g2,rfl,rfl,rfl,hj,hJ⟩:=hrel;by_cases hjn:j<1
  ·have haj:bE+j<ks.length:=by rw [lN.out];have:=NC.out;omega
   have hdj:((ks.drop bE).drop j).take (1 - j)=ks[bE+j]::((ks.drop bE).drop (j+1)).take (1 - (j+1)):=by
    rw [List.drop_drop,List.drop_eq_getElem_cons haj,show 1 - j=(1 - (j+1))+1 by omega,List.take_succ_cons,List.drop_drop];rfl
   have hJ2:=hJ.out;rw [hdj,List.all_cons] at hJ2;obtain⟨k0,Q4,b,o,bq,oq,kk,rfl,rfl,hb1,hb2,Ra,BH,yX⟩:=Hk.out (bE+j) ks[bE+j] (List.getElem?_eq_getElem haj);generalize ks[bE+j]=kd at*;have HJ:=hid hJ2;have a0:(0:Int)≤((bE+j:Nat):Int):=af;have a1:((bE+j:Nat):Int)<(m:Int):=by have:=lN.out;omega
   have a2:(kk:Int)<(n:Int):=af;have a3:(j:Int)<(1:Int):=af;exact al1
  ·obtain rfl:j=1:=by omega
   have hJ2:=hJ.out;rw [show 1 - 1=0 by omega,List.take_zero,List.all_nil] at hJ2;have hRu:=Hru.out;rw [←hJ2,Bool.true_and,List.drop_drop] at hRu;have HRu:=hid hRu;have a3:¬((1:Nat):Int)<((1:Nat):Int):=af;clear hJ2 hJ hRu;go_wp2;refine⟨⟨pos+1,bE+1,g2,by simp,rfl,by omega,by have:=NC.out;omega,HRu.out.symm,by have:=NC.out;omega⟩, ?_⟩;exact Lz
 ):p:=h
theorem am0 (h:p:=by
 have dL:=tZ hvn.fits af;obtain⟨bk,ok,eO,bO,eA⟩:=bQ hf dL;have dA:=hvn.kids (x.kids.getD 0 0) (by rw [List.getD,List.getElem?_eq_getElem dL];exact List.getElem_mem dL);unfold Bf at hr;rw [hka,if_pos hs,bW] at hr;obtain⟨z,hz⟩:∃z:Nat,x.kids.getD 0 0=(z:Int):=⟨(x.kids.getD 0 0).toNat,by omega⟩;rw [hz] at hr dA eA;rw [Nat.add_zero] at eA;obtain⟨q,hq⟩:∃q,q=x.kids.length:=⟨_,rfl⟩;rw [←hq] at c2 dL;rw [eO] at c2;have Hr:=hid hr;have q1:(0:Int)<(q:Int):=af;clear hR hr hka bW hvn hf eO hz hq hx;generalize x.kind=kx at*;rcases hs with rfl|rfl|rfl
 all_goals
  go_wp2;go_round
  case rel=>exact⟨z,rfl,by omega,f,by omega,Hr.out⟩
  case measure=>simp [intOf];omega
 ):p:=h
theorem ahZ (h:p:=by
 rw [hcc] at hl hd;have Hd:=hid hd;clear hd hw;cases hg:pL kd cc with
 |true=>
  go_wp2_with (go_at_call 113;((with_reducible refine(Vc kd cc k0 Q4 hl _).mono ?_));rintro e w' ⟨rfl,hb⟩;obtain⟨g3,rfl⟩:=aC hb;clear hb;rw [hg]);exact⟨⟨i+1,_,by congr 1,rfl,by omega,by have:=Hd.out;rw [hg,Bool.true_and] at this;exact this.symm⟩,by simp [intOf];omega⟩
 |false=>
  go_wp2_with (go_at_call 113;((with_reducible refine(Vc kd cc k0 Q4 hl _).mono ?_));rintro e w' ⟨rfl,hb⟩;obtain⟨g3,rfl⟩:=aC hb;clear hb;rw [hg]);go_ret;exact⟨by rw [Hd.out,hg];rfl,dB⟩
 ):p:=h
theorem amG (h:p:=by
 have vU:Hid (fc false s.data.toList=true):=hid (by rw [Hr.out,q1,q3];rfl);clear Hr;go_enter Tryz.func116,Tryz.ntmps116;go_wp2_with (first
  |(go_at_call 117;((with_reducible refine(fK.out _).mono ?_));rintro e w' ⟨rfl,hb⟩;obtain⟨g1,rfl⟩:=aC hb;clear hb)
  |(go_at_call 107;((with_reducible refine(H1.out _ ?_).mono ?_));rotate_left;rintro e w' ⟨rfl,hb⟩;obtain⟨g2,rfl⟩:=aC hb;clear hb))
 all_goals first
  |(go_ret2;exact⟨⟨_,by rw [vU.out];rfl⟩,eK⟩)
  |exact HL.out _ eK
 ):p:=h
theorem amS (h:p:=by
 intro j p e hj hp he hbd;simp only at hj ⊢;by_cases e1:j=i
 ·subst e1;rw [ho] at hp;cases hp;have:=hall e he hbd;by_cases e2:e.on=j
  ·simp [e2,hi']
  ·have hne:¬j=e.on:=fun h=>e2 h.symm
   simpa [Array.getElem?_setIfInBounds,hne] using this
 ·have hne:¬i=j:=fun h=>e1 h.symm
  have hj':listed.getD j false=true:=Mr;have:=Ai j p e hj' hp he hbd;by_cases e2:e.on=i
  ·simp [e2,hi']
  ·have xu:¬i=e.on:=fun h=>e2 h.symm
   simpa [Array.getElem?_setIfInBounds,xu] using this
 ):p:=h
theorem am1 (h:p:=by
 have hKt:=Kt.jU (N:=N) (ob:=ob) (B:=w0.heap.size) (pV.out.trans (hA.mono pV.out.size)) HE.out.below.size HE.out.size;rintro e w' (⟨rfl,hj,hk⟩|⟨rfl,hx⟩)
 ·exact⟨_,rfl,hK _ _ (Am.dO.at (.inl ⟨rfl,hj,hKt.trans hk⟩) (by rw [T.size];simp) (by intro q hq;simp only [List.mem_singleton] at hq;subst hq;exact⟨by decide,T.behind _ ai⟩)) trivial⟩
 ·exact⟨_,rfl,hK _ _ (Am.dO.at (.inr ⟨rfl,hx⟩) (by rw [T.size];simp) (by intro q hq;simp only [List.mem_singleton] at hq;subst hq;exact⟨by decide,T.behind _ ai⟩)) trivial⟩
 ):p:=h
theorem am2 (h:p:=by
 have Vd:=trivial;exact afs
 ):p:=h
theorem aft (h:p:=by
 have Ve:=trivial;exact afs
 ):p:=h
theorem afu (h:p:=by
 have Vf:=trivial;exact afv
 ):p:=h
theorem afw (h:p:=by
 have Vg:=trivial;exact afv
 ):p:=h
theorem afx (h:p:=by
 have ko:listed.getD 6 false=false:=T.behind 6 ai;have hA:=T.inv.pre ko;have zK:=(hA.cell (p:=⟨TB,0,none⟩) l0').trans t0';have NS:=(hA.cell (p:=⟨YB,0,none⟩) l1').trans t1';replace hK:=fun v w' (hbl:Below w1.heap.size w1 w') hφ=>hK v w' (Am.dO.jh ko aj (hA.trans (hbl.mono hA.size))) hφ
 refine Am.rC rfl rfl (hK _ _ (Below.refl _ _) rfl) ?_;exact wO
 ):p:=h
theorem aea (h:p:=by
 intro i
 induction i using Nat.strongRecOn with
 |_ i ihi=>
  intro hi;have hi':i<listed.size:=af;cases hv:listed[i] with
  |true=>simp [hi',hv]
  |false=>
   exfalso;have:i∈Region.ready .any ops.toArray listed:=mem_ready.2 ⟨by simp [hi',hv],ops[i],by simp [hi],fun e he hb=>by
    have hlt:=xS i ops[i] e (by simp [hi]) he hb;exact ihi e.on hlt af⟩
   rw [hnone] at this;cases this
 ):p:=h
theorem TJ (h:p:=by
 go_wp2;refine bodyPost_ret (v:=.tuple #[.agg #[.int .i64 0,.int .i64 0],.bool false]) (by simp [results,Tryz.f126,go_sem]) rfl ?_;exact⟨0,0,_,rfl,TH,by rw [HE.out,Hr.out];rfl,fun hv=>nomatch hv⟩
 ):p:=h
theorem ad7 (h:p:=by
 by_cases hz:z=12
 ·subst hz;kernel_rfl
 ·have:zC z=fun _=>false:=by
   funext j;unfold zC;have hb:∀k,z≠k→Nat.beq z k=false:=fun k h=>by cases e:Nat.beq z k with|true=>exact absurd (Nat.eq_of_beq_eq_true e) h|false=>rfl
   rw [hb 12 hz];rfl
  rw [this];unfold Am.mj;exact List.all_eq_true.2 fun _ _=>rfl
 ):p:=h
theorem aeF (h:p:=by
 refine callsIn_wide.2 ?_;go_enter Tryz.func124,Tryz.ntmps124;go_wp2;exact alr
 ):p:=h
theorem Mc (h:p:=by
 dsimp only [qT] at hy;have HRr:=hid hRr;clear hRr hr od hJ1 Zr;gi_wp2_with ((try refine⟨hdd _, ?_⟩);refine HRr.out.mono ?_;clear HRr;rintro e W4 (⟨rfl,hJ4,hk4⟩|⟨rfl,hx4⟩))
 ·go_ret;exact .inl ⟨rfl,by rw [Hr.out];exact hJ4,(Kt.jU nE.out HE.out.below.size HE.out.size).trans hk4⟩
 ·go_ret;exact .inr ⟨rfl,_,hx4⟩
 ):p:=h
theorem aeU (h:p:=by
 have hA:=T.inv.2;have Cj:=(hA.cell (p:=⟨DB,0,none⟩) Jh).trans Mf;have l7:=(hA.cell (p:=⟨W.heap.size,2,none⟩) lA).trans Mg;have kf:=(hA.cell (p:=⟨bk,ok,none⟩) uv).trans Mh;refine Am.rC rfl rfl (hK _ _ (T.inv.keep aj hA) rfl) ?_;exact wO
 ):p:=h
theorem acN (h:p:=by
 clear mF ho;go_enter Tryz.func116,Tryz.ntmps116;go_wp2_with (go_at_call 117;((with_reducible refine(fK.out _).mono ?_));rintro e w' ⟨rfl,hb⟩;obtain⟨g1,rfl⟩:=aC hb;clear hb);go_ret2;exact⟨⟨_,by rw [Hr.out];rfl⟩,eK⟩
 ):p:=h
theorem ac0 (h:p:=by
 have hres:(jr s.vars t.vars && jr s.uses t.uses && jr s.funcs t.funcs && jr s.cF t.cF)=false:=by rw [Bu.out Hd.out];simp
 have jc:=hid hres;clear hres;go_wp2;go_quiet (fail);exact afi
 ):p:=h
theorem ae0 (h:p:=by
 intro t hno;have Xr:o.dst≠some t:=hno i o ho;have:(ca.put o.dst v).tmps.getD t undef=ca.tmps.getD t undef:=by
  exact am3
 rw [this];exact bp t hno
 ):p:=h
theorem aei (h:p:=by
 clear hI hall hd hs aT bp hr h7 kJ OX;subst bf;simp only [List.setIfInBounds_toArray,List.set_cons_succ,List.set_cons_zero];refine tV _ _ ?_;gi_wp2;refine bodyPost_ret (results_tmp rfl _ _ _) rfl ?_;rcases rj.out with⟨rfl,h1,h2⟩|⟨rfl,h1⟩
 ·exact .inl ⟨rfl,h1,h2⟩
 ·exact .inr ⟨rfl,h1⟩
 ):p:=h
theorem ae5 (h:p:=by
 subst e1;rw [ho] at hp;cases hp;have aid:d<ca.tmps.size:=by
  have:=List.all_eq_true.1 MK o (List.mem_of_getElem? ho);simp only [mS,blt_eq] at this;rw [hs];simpa using this
 have:(ca.put o.dst v).tmps.getD d undef=v:=by simp [Act.put,mS,aid]
 rw [this];exact hv
 ):p:=h
theorem aew (h:p:=by
 apply List.eq_nil_iff_forall_not_mem.2;intro i hi;obtain⟨h4,o,ho,_⟩:=mem_ready.1 hi;have hlt:i<ops.length:=by have:=(Array.getElem?_eq_some_iff.1 ho).1;simpa using this
 exact adC
 ):p:=h
theorem afy (h:p:=by
 go_wp2_with (go_at_call 139;((with_reducible refine(eM _).mono ?_));rintro e w' ⟨rfl,hw⟩;rw [hw];clear hw w');go_end0;exact⟨by rw [←Hr.out];rfl,dB⟩
 ):p:=h
theorem ads (h:p:=by
 go_wp2_with (go_at_call 139;((with_reducible refine(jF _).mono ?_));rintro e w' ⟨rfl,hw⟩;rw [hw];clear hw w');refine⟨rfl,vh cU Hb.out rfl ?_⟩
 repeat (first|exact Below.refl _ _|refine bG ?_ _|refine bI ?_ _ _|refine bA ?_ _|refine bD ?_|refine bN ?_ _)
 ):p:=h
theorem adk (h:p:=by
 clear hno yM cD;go_wp2;go_ret2;exact⟨by rw [Hb.out];show _=Ending.returned (.tuple #[.int .i64 ((n:Int) - 1),.int .i64 60]);rw [OZ.out];rfl,dB⟩
 ):p:=h
theorem ae8 (h:p:=by
 rcases Nat.lt_trichotomy j i with RL|RL|RL
 ·rcases(rN j i p o hp ho RL).2 with h|h
  ·exact sJ j h
  ·exact absurd ht ((Oper.apart_spec h).1 t mS)
 ·exact absurd ht (hown i j o p t ho hp af mS)
 ·exact absurd ht (hown i j o p t ho hp af mS)
 ):p:=h
theorem aev (h:p:=by
 have hi':i<listed.size:=af;cases hv:listed[i] with
 |true=>simp [hi',hv]
 |false=>
  have yU:false∈listed.toList:=by rw [List.mem_iff_getElem];exact⟨i,by simpa using hi',by simpa using hv⟩
  have:=List.count_pos_iff.2 yU;omega
 ):p:=h
theorem ae7 (h:p:=by
 clear hno yM cD;go_wp2;exact am4
 ):p:=h
theorem ad8 (h:p:=by
 intro j p d hp mS hj;rcases j with _|_|_|_|_|_|_|_|_|_|_|_|_|_|_|_|_|j
 all_goals first
  |trivial
  |(rw [T.own] at hj;cases hj)
  |(rw [T.behind _ ai] at hj;cases hj)
  |(simp at hp)
 ):p:=h
theorem afc (h:p:=by
 go_enter Tryz.func64,Tryz.ntmps64;go_wp2_with (first
  |(go_at_call 112;((with_reducible refine(Hsh.out _).mono ?_));rintro e w' ⟨rfl,hb⟩;obtain⟨g0,rfl⟩:=aC hb;clear hb))
 go_ret;exact⟨rfl,bG (Below.refl _ _) _⟩
 ):p:=h
theorem aer (h:p:=by
 subst hs;exact amW
 ):p:=h
theorem aeJ (h:p:=by
 exact am4
 ):p:=h
theorem zE (h:p:=by
 cases ho;have hg:kL.tmps.getD 76 undef=.bool false:=Am.aV (j:=7) ah ai rfl rfl;exact Am.bX Am.dm (Am.F6 rfl rfl rfl hg rfl (hK _ _ (T2.inv.keep T2.inv.2) trivial))
 ):p:=h
theorem Mo (h:p:=by
 go_enter Tryz.func65,Tryz.ntmps65;exact am5
 ):p:=h
theorem afb (h:p:=by
 have hf:=hv.fits;have hl:(cR ns x.kids).length=x.kids.length:=by simp [cR]
 rw [h2,←hl];rw [h1] at hk;rw [hk] at hf;have:=uh hf aj;exact Nat.le_trans aj this
 ):p:=h
theorem ae9 (h:p:=by
 rw [if_neg cX];rw [if_neg cX];exact afz
 ):p:=h
theorem aes (h:p:=by
 go_enter Tryz.func141,Tryz.ntmps141;exact Uw
 ):p:=h
theorem aet (h:p:=by
 go_enter Tryz.func65,Tryz.ntmps65;exact Uw
 ):p:=h
theorem afa (h:p:=by
 go_enter Tryz.func34,Tryz.ntmps34;go_wp2;exact afA
 ):p:=h
theorem aeX (h:p:=by
 go_quiet (fail);exact am5
 ):p:=h
theorem Ug (h:p:=by
 cases ho;have aQ:=Am.lo 5 ah rfl;refine Am.rv rfl rfl (hK _ _ (Below.refl _ _) rfl) ?_;generalize ca.eval=ev at*;simp [go_sem,execOp,hfn,hcs,aQ,hx0,hx1,hx2,hx3]
 ):p:=h
theorem aeI (h:p:=by
 go_wp2;go_roundw
 case rel=>exact⟨j+1,qu,_,by omega,by go_num,rfl,m,uw.out,O3,j8,by rw [←aac.out];exact Hmk.out⟩
 case measure=>simp [intOf];omega
 ):p:=h
theorem afC (h:p:=by
 cases ho;have aQ:=Am.lk 99 11 ah fun _=>rfl
 exact Cn
 ):p:=h
theorem afD (h:p:=by
 cases ho;have aQ:=Am.lk 83 11 ah fun _=>rfl
 exact Cn
 ):p:=h
theorem afh (h:p:=by
 refine⟨by rw [cq h1 _ _];rfl,⟨h2.len,fun i v l a b=>eL (h2.rows i v l a b) _ af,h2.apart⟩,h3.kept hg2 (.inr (iL h3 h1 aj))⟩
 ):p:=h
theorem afe (h:p:=by
 go_wp2;exact am6
 ):p:=h
theorem afj (h:p:=by
 cases h with
 |RJ ho2 he hb2=>rw [ho] at ho2;cases ho2;exact hall _ he hb2
 |step ho2 he hb2 h2=>rw [ho] at ho2;cases ho2;exact h2.mem Ai (hall _ he hb2)
 ):p:=h
theorem aeL (h:p:=by
 exact am6
 ):p:=h
theorem afl (h:p:=by
 cases Xr:o.dst with
 |none=>rfl
 |some d'=>
  have xu:¬d'=d:=fun e=>hdd (by rw [Xr,e])
  simp [Act.put,Array.getElem?_setIfInBounds,xu]
 ):p:=h
theorem L6 (h:p:=by
 cases ho;have aQ:=Am.lo 0 ah rfl;exact Cn
 ):p:=h
theorem Gx (h:p:=by
 cases ho;have aQ:=Am.lo 9 ah rfl;exact Cn
 ):p:=h
theorem TI (h:p:=by
 cases ho;have aQ:=Am.lo 8 ah rfl;exact Cn
 ):p:=h
theorem aeS (h:p:=by
 rw [show(W.alloc (.cells #[.slice p0 n0 c0,.slice p1 n1 c1,.slice p2 n2 c2,.slice p3 n3 c3] 28)).heap.size=W.heap.size+1 by simp] at this;exact this
 ):p:=h
theorem Mp (h:p:=by
 refine Am.rv rfl rfl (hK _ _ (hI.put aj aj) (fun _ _ _=>rfl) rfl) ?_;exact wO
 ):p:=h
theorem afk (h:p:=by
 go_enter Tryz.func125,Tryz.ntmps125;go_wp2;exact afE
 ):p:=h
theorem ael (h:p:=by
 go_end0;exact am8
 ):p:=h
theorem aem (h:p:=by
 exact⟨rfl,rfl,dB⟩
 ):p:=h
theorem afd (h:p:=by
 go_wp2;go_ret;exact⟨by rw [ahD.out];rfl,eK⟩
 ):p:=h
theorem adi (h:p:=by
 go_wp2;go_ret2;exact⟨by rw [Hb.out];rfl,eK⟩
 ):p:=h
theorem TY (h:p:=by
 refine Am.rv rfl rfl (hK _ _ (Below.refl _ _) rfl) ?_;generalize ca.eval=ev at*;simp [go_sem,execOp,hfn,hcs,aQ,R0,R1,R2,R3]
 ):p:=h
theorem Cl (h:p:=by
 refine Am.rv rfl rfl (hK _ _ (Below.refl _ _) rfl) ?_;generalize ca.eval=ev at*;simp [go_sem,execOp,hfn,hcs,aQ,q0,q1,q2]
 ):p:=h
theorem aep (h:p:=by
 go_ret;exact adV
 ):p:=h
theorem ae6 (h:p:=by
 go_ret2;exact⟨by rw [hd];rfl,eK⟩
 ):p:=h
theorem afn (h:p:=by
 rcases Nat.lt_or_gt_of_ne e1 with h|h
 ·exact(rN j i p o hp ho h).1 d mS Xr
 ·exact(rN i j o p ho hp h).1 d Xr mS
 ):p:=h
theorem afg (h:p:=by
 exact afz
 ):p:=h
theorem ad3 (h:p:=by
 refine Am.rv rfl rfl (hK _ _ (Below.refl _ _) rfl) ?_;generalize ca.eval=ev at*;simp [go_sem,execOp,hfn,hcs,aQ,hc0]
 ):p:=h
theorem Cm (h:p:=by
 refine Am.rv rfl rfl (hK _ _ (Below.refl _ _) rfl) ?_;exact TR
 ):p:=h
theorem Uj (h:p:=by
 refine Am.rv rfl rfl (hK _ _ (Below.refl _ _) rfl) ?_;generalize ca.eval=ev at*;simp [go_sem,execOp,hfn,hcs,aQ,r7]
 ):p:=h
theorem Um (h:p:=by
 refine Am.rv rfl rfl (hK _ _ (Below.refl _ _) rfl) ?_;generalize ca.eval=ev at*;simp [go_sem,execOp,hfn,hcs,aQ,C7]
 ):p:=h
theorem rG (h:p:=by
 exact Cn
 ):p:=h
theorem afo (h:p:=by
 cases hs2:listed.getD j false with
 |false=>rfl
 |true=>have:=h.mem Ai hs2;rw [Zk] at this;cases this
 ):p:=h
theorem afm (h:p:=by
 refine Am.rv rfl rfl (hK _ _ rfl rfl rfl) ?_;exact wO
 ):p:=h
theorem aff (h:p:=by
 exact afE
 ):p:=h
theorem Rx (h:p:=by
 exact⟨rfl,eK⟩
 ):p:=h
theorem ad6 (h:p:=by
 rcases h3.vars.2 with⟨e1,e2⟩|⟨g,cap,cur,e1,_⟩
 ·exact Fq
 ·exact⟨_,_,e1⟩
 ):p:=h
theorem Gw (h:p:=by
 generalize ca.eval=ev at*;simp [go_sem,execOp,hfn,hcs,aQ,nV,DN,Xm]
 ):p:=h
theorem Mj (h:p:=by
 generalize ca.eval=ev at*;simp [go_sem,execOp,hfn,hcs,aQ,BH,yX]
 ):p:=h
theorem U9 (h:p:=by
 generalize ca.eval=ev at*;simp [go_sem,execOp,hfn,hcs,aQ,nV,DN]
 ):p:=h
theorem Mm (h:p:=by
 generalize ca.eval=ev at*;simp [go_sem,execOp,hfn,hcs,aQ,kf]
 ):p:=h
theorem Vh (h:p:=by
 generalize ca.eval=ev at*;simp [go_sem,execOp,hfn,hcs,aQ,zK]
 ):p:=h
theorem zF (h:p:=by
 exact wO
 ):p:=h
theorem Co (h:p:=by
 generalize ca.eval=ev at*;simp [go_sem,execOp,hfn,hcs,hs]
 ):p:=h
theorem Bz (h:p:=by
 rintro e w' ⟨rfl,hb'⟩;exact⟨_,rfl,hK _ _ hb' rfl⟩
 ):p:=h
theorem Mn (h:p:=by
 first|exact eP|(rw [hp] at eP;exact eP)
 ):p:=h
theorem mq (h:p:=by
 exact Bool.noConfusion (T2.own.symm.trans h9)
 ):p:=h
theorem zH (h:p:=by
 go_wp2;go_ret;exact⟨rfl,Below.refl _ _⟩
 ):p:=h
theorem Gi (h:p:=by
 simp [ByteArray.getElem_eq_getElem_data]
 ):p:=h
theorem al1 (h:p:=by
 have a4:((bE+j:Nat):Int)≤20000:=af;have a5:(0:Int)≤(kk:Int):=af;clear hJ hJ2 hdj haj;generalize hA:bE+j=A at*;have HA:=hid hA;clear hA;cases hg:pL kd c1 with
 |true=>
  go_wp2_with (first
   |(go_at_call 180;((with_reducible refine(Gy kd c1 k0 Q4 Ai _).mono ?_));rintro e w' ⟨rfl,hb⟩;obtain⟨g3,rfl⟩:=aC hb;clear hb;rw [hg])
   |(go_at_call 139;((with_reducible refine(eM _).mono ?_));rintro e w' ⟨rfl,hw⟩;rw [hw];clear hw w'))
  exact⟨⟨j+1,_,by congr 1;have:=HA.out;omega,by simp,rfl,by omega,by have:=HJ.out;rw [hg,Bool.true_and] at this;exact this⟩,by simp [intOf];omega⟩
 |false=>
  go_wp2_with (first
   |(go_at_call 180;((with_reducible refine(Gy kd c1 k0 Q4 Ai _).mono ?_));rintro e w' ⟨rfl,hb⟩;obtain⟨g3,rfl⟩:=aC hb;clear hb;rw [hg])
   |(go_at_call 139;((with_reducible refine(jF _).mono ?_));rintro e w' ⟨rfl,hw⟩;rw [hw];clear hw w'))
  have hRf:R=false:=by
   have h1:=HJ.out;rw [hg,Bool.false_and] at h1;rw [Hru.out,←h1,Bool.false_and]
  exact⟨rfl,by rw [hRf];rfl,dB⟩
 ):p:=h
theorem alr (h:p:=by
 go_ret;refine .inl ⟨rfl, ?_, ?_⟩
 ·rw [Hr.out,List.append_nil];exact HJ.out _ _ _ Iw.out tM
 ·exact Kt.jU tM HE.out.below.size HE.out.size
 ):p:=h
theorem aia (h:p:=by
 cases ho;have aQ:=Am.lo 0 ah rfl;exact am9
 ):p:=h
theorem am4 (h:p:=by
 go_ret2;exact⟨by rw [Hb.out];rfl,by repeat (first|exact Below.refl _ _|exact LL.out|exact lZ LL.out af|refine bG ?_ _|refine bI ?_ _ _|refine bA ?_ _|refine bD ?_|refine bN ?_ _)⟩
 ):p:=h
theorem amW (h:p:=by
 go_wp2;go_quiet (fail);go_wp2;go_roundw
 case rel=>exact⟨i+1,_,by omega,by go_num,by first|rfl|exact World.drewN_drewN _ _ _,hid (by rw [Hs.out,Hs'.out,hI.out])⟩
 case measure=>simp [intOf];omega
 ):p:=h
theorem Va (h:p:=by
 exact am9
 ):p:=h
theorem am5 (h:p:=by
 go_wp2;go_ret;exact⟨by rw [Hr.out];rfl,dB⟩
 ):p:=h
theorem am6 (h:p:=by
 go_ret2;exact⟨by rw [Hb.out];rfl,dB⟩
 ):p:=h
theorem am3 (h:p:=by
 cases xy:o.dst with
 |none=>rfl
 |some d'=>
  have xu:¬d'=t:=fun e=>Xr (by rw [xy,e])
  simp [Act.put,Array.getElem?_setIfInBounds,xu]
 ):p:=h
theorem Uw (h:p:=by
 go_wp2;go_ret;exact am8
 ):p:=h
theorem afA (h:p:=by
 go_ret;exact⟨_,rfl,ux,fT.empty _ _⟩
 ):p:=h
theorem afi (h:p:=by
 go_wp2;go_ret;exact⟨by rw [jc.out];rfl,P6⟩
 ):p:=h
theorem afz (h:p:=by
 rw [if_neg cX];rw [if_neg cX];rw [if_neg cX];rw [if_pos az]
 ):p:=h
theorem adV (h:p:=by
 exact⟨by rw [Hr.out];rfl,eK⟩
 ):p:=h
theorem Cn (h:p:=by
 refine Am.rv rfl rfl (hK _ _ (Below.refl _ _) rfl) ?_;generalize ca.eval=ev at*;simp [go_sem,execOp,hfn,hcs,aQ]
 ):p:=h
theorem afE (h:p:=by
 go_ret;exact⟨rfl,P6⟩
 ):p:=h
theorem adC (h:p:=by
 have:=hall i hlt;have hi':i<listed.size:=af;simp [hi'] at this h4;rw [this] at h4;cases h4
 ):p:=h
theorem afp (h:p:=by
 rcases k1.2 with⟨e1,_⟩|⟨g,cap,cur,e1,_⟩
 ·exact⟨_,_,_,e1⟩
 ·exact⟨_,_,_,e1⟩
 ):p:=h
theorem TR (h:p:=by
 generalize ca.eval=ev at*;simp [go_sem,execOp,hfn,hcs,aQ,Cj]
 ):p:=h
theorem Ml (h:p:=by
 generalize ca.eval=ev at*;simp [go_sem,execOp,hfn,hcs,aQ,l7]
 ):p:=h
theorem Lz (h:p:=by
 rw [kE _ _ _ _ _ rfl,kE _ _ _ _ _ rfl];omega
 ):p:=h
theorem wO (h:p:=by
 generalize ca.eval=ev at*;simp [go_sem,execOp,hfn,hcs,aQ]
 ):p:=h
theorem Fq (h:p:=by
 exact⟨none,0,by rw [e1,e2]⟩
 ):p:=h
theorem am9 (h:p:=by
 refine Am.rv rfl rfl (hK _ _ (hI.put aj aj) Mq rfl) ?_;generalize ca.eval=ev at*;simp [go_sem,execOp,hfn,hcs,aQ]
 ):p:=h
theorem am8 (h:p:=by
 exact⟨rfl,dB⟩
 ):p:=h
theorem aie (h:p:=by
 rw [cD] at az;have Ha:=hid (Hn.out n hn);obtain⟨va,ZG⟩:∃va,va=fL ns s.vars s.uses n:=⟨_,rfl⟩;have pF:Hid (R=if va<0 then [] else [(va,if yes then 126 else 3)]):=hid (by rw [HR.out,if_pos az,ZG]);rw [←ZG] at Ha;clear HR ZG cD ke bP cO Hn Hq lN cH je kj Hf ht;generalize ns[n]=x at*;obtain⟨xk,xt,xp,xc,dx,eY⟩:=x;simp only at az k0 k1 k2 k3;subst az;generalize s.vars.length=n0 at*;generalize s.uses.length=n1 at*;generalize s.funcs.length=n2 at*;generalize s.cF.length=n3 at*;generalize ns.length=L at*;by_cases g1:va<0
 ·have hr:R=[]:=by rw [pF.out,if_pos g1]
  subst hr;clear pF;go_enter Tryz.func34,Tryz.ntmps34;go_wp2_with (go_at_call 77;((with_reducible refine(Ha.out _ ux).mono ?_));rintro e w' ⟨rfl,hb⟩;obtain⟨G1,rfl⟩:=aC hb;clear hb);exact afA
 ·cases yes with
  |true=>
   have hr:R=[(va,126)]:=by rw [pF.out,if_neg g1];rfl
   subst hr;clear pF;go_enter Tryz.func34,Tryz.ntmps34;go_wp2_with (go_at_call 77;((with_reducible refine(Ha.out _ ux).mono ?_));rintro e w' ⟨rfl,hb⟩;obtain⟨G1,rfl⟩:=aC hb;clear hb);go_ret;exact⟨_,rfl,ux,by have:=fT.one (B:=W.heap.size) (w:=grow ((W.alloc (Obj.cells #[Value.slice p0 n0 c0,Value.slice p1 n1 c1,Value.slice p2 n2 c2,Value.slice p3 n3 c3] 28)).alloc (Obj.cells #[Value.int IntKind.i64 17,Value.string xt,Value.slice xp dx.length xc,Value.int IntKind.i64 eY] 56)) G1) va 126 bt;simpa using this⟩
  |false=>
   have hr:R=[(va,3)]:=by rw [pF.out,if_neg g1];rfl
   subst hr;clear pF;go_enter Tryz.func34,Tryz.ntmps34;go_wp2_with (go_at_call 77;((with_reducible refine(Ha.out _ ux).mono ?_));rintro e w' ⟨rfl,hb⟩;obtain⟨G1,rfl⟩:=aC hb;clear hb);go_ret;exact⟨_,rfl,ux,by have:=fT.one (B:=W.heap.size) (w:=grow ((W.alloc (Obj.cells #[Value.slice p0 n0 c0,Value.slice p1 n1 c1,Value.slice p2 n2 c2,Value.slice p3 n3 c3] 28)).alloc (Obj.cells #[Value.int IntKind.i64 17,Value.string xt,Value.slice xp dx.length xc,Value.int IntKind.i64 eY] 56)) G1) va 3 bt;simpa using this⟩
 ):p:=h
theorem aif (h:p:=by
 have r7:=DX ht hn az;rw [cD] at az;rw [bP] at r7;have fS:=cM ht n;rw [bP] at fS;have eD:0<ns[n].kids.length:=af;obtain⟨lq,rq,fu,nu,fN⟩:=bQ cH.out eD;have fB:=lN.out ns[n].kids[0] (List.getElem_mem eD);obtain⟨z0,hz0⟩:∃z:Nat,ns[n].kids[0]=(z:Int):=⟨(ns[n].kids[0]).toNat,by omega⟩;rw [hz0] at fB;have gG:ns[n].kids.getD 0 0=(z0:Int):=zL;rw [gG] at fN;have A0:fV ns (ns[n].kids.take 0)+wt ns z0≤fV ns ns[n].kids:=zM;have pF:Hid (R=if ns[n].text.toList=XQ then aW ns s.vars s.uses k z0 (!yes) else []):=hid (by
  rw [HR.out,if_neg cX,if_pos az,gG])
 have HC:=hid (je.out z0 af af (!yes));rw [fu] at k2;rw [Nat.add_zero] at fN;obtain⟨q,hq⟩:∃q,q=ns[n].kids.length:=⟨_,rfl⟩;rw [←hq] at k2 eD;have q1:(0:Int)<(q:Int):=af;have q2:¬q=0:=af;obtain⟨T,hT⟩:∃T,T=aW ns s.vars s.uses k z0 (!yes):=⟨_,rfl⟩;rw [←hT] at pF;have HCT:Hid (∀w1,Below W.heap.size W w1→Calls Tryz.prog 34 #[.slice (some ⟨b,o,none⟩) ns.length c,.agg #[.slice p0 s.vars.length c0,.slice p1 s.uses.length c1,.slice p2 s.funcs.length c2,.slice p3 s.cF.length c3],.int .i64 z0,.bool (!yes)] w1 (fM w1 T)):=hid (by rw [hT];exact fun w1 hb=>HC.out w1 hb);clear HR cD ke bP cO Hn Hq lN cH je kj Hf ht HC hT hz0 gG fu fB A0 fS r7 hq ZQ;generalize ns[n]=x at*;obtain⟨xk,xt,xp,xc,dx,eY⟩:=x;simp only at az k0 k1 k2 k3 pF;subst az;generalize s.vars.length=n0 at*;generalize s.uses.length=n1 at*;generalize s.funcs.length=n2 at*;generalize s.cF.length=n3 at*;generalize ns.length=L at*;cases xx:(xt.toList==[110,111,116]) with
 |false=>
  have hr:R=[]:=by rw [pF.out,if_neg (fun e=>by rw [e] at xx;exact absurd xx aj)]
  subst hr;clear pF;exact Kb
 |true=>
  have hr:R=T:=by rw [pF.out,if_pos (show xt.toList=XQ from eq_of_beq xx)]
  subst hr;clear pF;go_enter Tryz.func34,Tryz.ntmps34;go_wp2;obtain⟨wz,nI⟩:∃wz,wz=(W.alloc (.cells #[.slice p0 n0 c0,.slice p1 n1 c1,.slice p2 n2 c2,.slice p3 n3 c3] 28)).alloc (.cells #[.int .i64 28,.string xt,.slice (some ⟨lq,rq,none⟩) q xc,.int .i64 eY] 56):=⟨_,rfl⟩;rw [←nI];have EI:Below W.heap.size W wz:=Cp;have hz1:wz.heap[W.heap.size]?=some (.cells #[.slice p0 n0 c0,.slice p1 n1 c1,.slice p2 n2 c2,.slice p3 n3 c3] 28 (0,0)):=by rw [nI,(au _ _).block _ ak];exact heap_alloc_new _ _
  have hz2:wz.heap[W.heap.size+1]?=some (.cells #[.int .i64 28,.string xt,.slice (some ⟨lq,rq,none⟩) q xc,.int .i64 eY] 56 (0,0)):=by
   rw [nI];have:=heap_alloc_new (W.alloc (.cells #[.slice p0 n0 c0,.slice p1 n1 c1,.slice p2 n2 c2,.slice p3 n3 c3] 28)) (.cells #[.int .i64 28,.string xt,.slice (some ⟨lq,rq,none⟩) q xc,.int .i64 eY] 56);exact Kn
  have x0:wz.cell? ⟨W.heap.size,0,none⟩=some (.slice p0 n0 c0):=ir;have x1:wz.cell? ⟨W.heap.size,1,none⟩=some (.slice p1 n1 c1):=ir;have x2:wz.cell? ⟨W.heap.size,2,none⟩=some (.slice p2 n2 c2):=ir;have x3:wz.cell? ⟨W.heap.size,3,none⟩=some (.slice p3 n3 c3):=ir;have y2:wz.cell? ⟨W.heap.size+1,2,none⟩=some (.slice (some ⟨lq,rq,none⟩) q xc):=uy;have e0:=(EI.cell (p:=⟨lq,_,none⟩) nu).trans fN;have r8:=hid EI;clear EI hz1 hz2 nI;go_still_tail 8,ai;go_wp2_with (go_at_call 34;((with_reducible refine(HCT.out _ r8.out.drew).mono ?_));rintro e w' ⟨v,rfl,hb,hrow⟩);go_ret;exact⟨_,rfl,r8.out.drew.trans (hb.mono r8.out.size),hrow.mono r8.out.size⟩
 ):p:=h
theorem aih (h:p:=by
 have hk2:=jQ ht hn (.inr (.inl az));rw [cD] at az;rw [bP] at hk2;have fS:=cM ht n;rw [bP] at fS;have eD:0<ns[n].kids.length:=af;obtain⟨lq,rq,fu,nu,fN⟩:=bQ cH.out eD;have fB:=lN.out ns[n].kids[0] (List.getElem_mem eD);obtain⟨z0,hz0⟩:∃z:Nat,ns[n].kids[0]=(z:Int):=⟨(ns[n].kids[0]).toNat,by omega⟩;rw [hz0] at fB;have gG:ns[n].kids.getD 0 0=(z0:Int):=zL;rw [gG] at fN;have A0:fV ns (ns[n].kids.take 0)+wt ns z0≤fV ns ns[n].kids:=zM;have fq:1<ns[n].kids.length:=af;obtain⟨AO,Nf,fX,si,zN⟩:=bQ cH.out fq;have ep:=lN.out ns[n].kids[1] (List.getElem_mem fq);obtain⟨z1,hz1⟩:∃z:Nat,ns[n].kids[1]=(z:Int):=⟨(ns[n].kids[1]).toNat,by omega⟩;rw [hz1] at ep;have iH:ns[n].kids.getD 1 0=(z1:Int):=Cq;rw [iH] at zN;have Gz:fV ns (ns[n].kids.take 1)+wt ns z1≤fV ns ns[n].kids:=Cr;rw [Nat.add_zero] at fN;obtain⟨bk,ok,eO,lg,kc0⟩:∃bk ok,ns[n].kp=some ⟨bk,ok,none⟩∧bk<W.heap.size∧W.cell? ⟨bk,ok,none⟩=some (.int .i64 z0):=⟨lq,rq,fu,nu,fN⟩;have kc1:W.cell? ⟨bk,ok+1,none⟩=some (.int .i64 z1):=by rw [eO] at fX;cases fX;exact zN
 have GC:wt ns z0+wt ns z1≤wt ns n:=by
  exact Kr
 rw [eO] at k2;obtain⟨q,hq⟩:∃q,q=ns[n].kids.length:=⟨_,rfl⟩;rw [←hq] at k2 eD fq;have q0:(0:Int)<(q:Int):=af;have q1:(1:Int)<(q:Int):=af;have q2:¬q=0:=af;obtain⟨l0,hl0⟩:∃l,l=aW ns s.vars s.uses k z0 yes:=⟨_,rfl⟩;obtain⟨l1,wN⟩:∃l,l=aW ns s.vars s.uses k z1 yes:=⟨_,rfl⟩;have pF:Hid (R=if yes then l0++l1 else []):=hid (by
  rw [HR.out,if_neg cX,if_neg cX,if_pos az,gG,iH,hl0,wN])
 have hb0:l0.length≤5000:=by rw [hl0];exact Nat.le_trans (fH kj.out _ _ k z0 yes af) af
 have hb1:l1.length≤5000:=by rw [wN];exact Nat.le_trans (fH kj.out _ _ k z1 yes af) af
 have H0:Hid (∀w1,Below W.heap.size W w1→Calls Tryz.prog 34 #[.slice (some ⟨b,o,none⟩) ns.length c,.agg #[.slice p0 s.vars.length c0,.slice p1 s.uses.length c1,.slice p2 s.funcs.length c2,.slice p3 s.cF.length c3],.int .i64 z0,.bool yes] w1 (fM w1 l0)):=hid (by rw [hl0];exact fun w1 hb=>je.out z0 af af yes w1 hb);have H1:Hid (∀w1,Below W.heap.size W w1→Calls Tryz.prog 34 #[.slice (some ⟨b,o,none⟩) ns.length c,.agg #[.slice p0 s.vars.length c0,.slice p1 s.uses.length c1,.slice p2 s.funcs.length c2,.slice p3 s.cF.length c3],.int .i64 z1,.bool yes] w1 (fM w1 l1)):=hid (by rw [wN];exact fun w1 hb=>je.out z1 af af yes w1 hb);clear HR cD ke bP cO Hn Hq lN cH je kj Hf ht hl0 wN hz0 hz1 gG iH eO fu fX fB ep A0 Gz GC fS hk2 hq ZQ fN zN nu si;generalize ns[n]=x at*;obtain⟨xk,xt,xp,xc,dx,eY⟩:=x;simp only at az k0 k1 k2 k3;subst az;generalize s.vars.length=n0 at*;generalize s.uses.length=n1 at*;generalize s.funcs.length=n2 at*;generalize s.cF.length=n3 at*;generalize ns.length=L at*;obtain⟨iT,hiT,zT0,zT1,zT2⟩:=info_parts Tryz.Tz;by_cases hy:yes=false
 ·exact TV
 ·obtain rfl:yes=true:=by cases yes<;>first|rfl|exact absurd rfl hy
  have hr:R=l0++l1:=pF.out;subst hr;clear pF hy;go_enter Tryz.func34,Tryz.ntmps34;go_wp2;obtain⟨wz,nI⟩:∃wz,wz=(W.alloc (.cells #[.slice p0 n0 c0,.slice p1 n1 c1,.slice p2 n2 c2,.slice p3 n3 c3] 28)).alloc (.cells #[.int .i64 29,.string xt,.slice (some ⟨bk,ok,none⟩) q xc,.int .i64 eY] 56):=⟨_,rfl⟩;rw [←nI];have EI:Below W.heap.size W wz:=Cp;have hz1:wz.heap[W.heap.size]?=some (.cells #[.slice p0 n0 c0,.slice p1 n1 c1,.slice p2 n2 c2,.slice p3 n3 c3] 28 (0,0)):=by rw [nI,(au _ _).block _ ak];exact heap_alloc_new _ _
  have hz2:wz.heap[W.heap.size+1]?=some (.cells #[.int .i64 29,.string xt,.slice (some ⟨bk,ok,none⟩) q xc,.int .i64 eY] 56 (0,0)):=by
   rw [nI];have:=heap_alloc_new (W.alloc (.cells #[.slice p0 n0 c0,.slice p1 n1 c1,.slice p2 n2 c2,.slice p3 n3 c3] 28)) (.cells #[.int .i64 29,.string xt,.slice (some ⟨bk,ok,none⟩) q xc,.int .i64 eY] 56);exact Kn
  have xP:=hid (Array.getElem?_eq_some_iff.1 hz1).1;have IG:=hid (Array.getElem?_eq_some_iff.1 hz2).1;have x0:wz.cell? ⟨W.heap.size,0,none⟩=some (.slice p0 n0 c0):=ir;have x1:wz.cell? ⟨W.heap.size,1,none⟩=some (.slice p1 n1 c1):=ir;have x2:wz.cell? ⟨W.heap.size,2,none⟩=some (.slice p2 n2 c2):=ir;have x3:wz.cell? ⟨W.heap.size,3,none⟩=some (.slice p3 n3 c3):=ir;have y1:wz.cell? ⟨W.heap.size+1,1,none⟩=some (.string xt):=uy;have y2:wz.cell? ⟨W.heap.size+1,2,none⟩=some (.slice (some ⟨bk,ok,none⟩) q xc):=uy;have r8:=hid EI;clear EI hz1 hz2 nI;refine wp_region_any ai ?_;refine Am.cJ _ 17 rfl ai ?_;simp only [List.take_succ_cons,List.take_zero];refine Am.cJ _ 16 rfl ai ?_;simp only [List.take_succ_cons,List.take_zero];refine Am.bM (Φ:=zB (.slice (some ⟨b,o,none⟩) L c) (.agg #[.slice p0 n0 c0,.slice p1 n1 c1,.slice p2 n2 c2,.slice p3 n3 c3]) (.slice (some ⟨bk,ok,none⟩) q xc) (W.heap.size+1) bk ok z0 z1 0 0 true W.heap.size l0 l1) (w0:=wz) ai ai ur ?_ ?_ _ ((Below.refl _ _).drew)
  ·have aaf:=trivial;exact aii
  ·exact aee
 ):p:=h
theorem aij (h:p:=by
 have hk2:=jQ ht hn (.inr (.inr az));rw [cD] at az;rw [bP] at hk2;have fS:=cM ht n;rw [bP] at fS;have eD:0<ns[n].kids.length:=af;obtain⟨lq,rq,fu,nu,fN⟩:=bQ cH.out eD;have fB:=lN.out ns[n].kids[0] (List.getElem_mem eD);obtain⟨z0,hz0⟩:∃z:Nat,ns[n].kids[0]=(z:Int):=⟨(ns[n].kids[0]).toNat,by omega⟩;rw [hz0] at fB;have gG:ns[n].kids.getD 0 0=(z0:Int):=zL;rw [gG] at fN;have A0:fV ns (ns[n].kids.take 0)+wt ns z0≤fV ns ns[n].kids:=zM;have fq:1<ns[n].kids.length:=af;obtain⟨AO,Nf,fX,si,zN⟩:=bQ cH.out fq;have ep:=lN.out ns[n].kids[1] (List.getElem_mem fq);obtain⟨z1,hz1⟩:∃z:Nat,ns[n].kids[1]=(z:Int):=⟨(ns[n].kids[1]).toNat,by omega⟩;rw [hz1] at ep;have iH:ns[n].kids.getD 1 0=(z1:Int):=Cq;rw [iH] at zN;have Gz:fV ns (ns[n].kids.take 1)+wt ns z1≤fV ns ns[n].kids:=Cr;rw [Nat.add_zero] at fN;obtain⟨bk,ok,eO,lg,kc0⟩:∃bk ok,ns[n].kp=some ⟨bk,ok,none⟩∧bk<W.heap.size∧W.cell? ⟨bk,ok,none⟩=some (.int .i64 z0):=⟨lq,rq,fu,nu,fN⟩;have kc1:W.cell? ⟨bk,ok+1,none⟩=some (.int .i64 z1):=by rw [eO] at fX;cases fX;exact zN
 have GC:wt ns z0+wt ns z1≤wt ns n:=by
  exact Kr
 rw [eO] at k2;obtain⟨q,hq⟩:∃q,q=ns[n].kids.length:=⟨_,rfl⟩;rw [←hq] at k2 eD fq;have q0:(0:Int)<(q:Int):=af;have q1:(1:Int)<(q:Int):=af;have q2:¬q=0:=af;obtain⟨l0,hl0⟩:∃l,l=aW ns s.vars s.uses k z0 yes:=⟨_,rfl⟩;obtain⟨l1,wN⟩:∃l,l=aW ns s.vars s.uses k z1 yes:=⟨_,rfl⟩;have pF:Hid (R=if yes then [] else l0++l1):=hid (by
  rw [HR.out,if_neg cX,if_neg cX,if_neg cX,if_pos az,gG,iH,hl0,wN])
 have hb0:l0.length≤5000:=by rw [hl0];exact Nat.le_trans (fH kj.out _ _ k z0 yes af) af
 have hb1:l1.length≤5000:=by rw [wN];exact Nat.le_trans (fH kj.out _ _ k z1 yes af) af
 have H0:Hid (∀w1,Below W.heap.size W w1→Calls Tryz.prog 34 #[.slice (some ⟨b,o,none⟩) ns.length c,.agg #[.slice p0 s.vars.length c0,.slice p1 s.uses.length c1,.slice p2 s.funcs.length c2,.slice p3 s.cF.length c3],.int .i64 z0,.bool yes] w1 (fM w1 l0)):=hid (by rw [hl0];exact fun w1 hb=>je.out z0 af af yes w1 hb);have H1:Hid (∀w1,Below W.heap.size W w1→Calls Tryz.prog 34 #[.slice (some ⟨b,o,none⟩) ns.length c,.agg #[.slice p0 s.vars.length c0,.slice p1 s.uses.length c1,.slice p2 s.funcs.length c2,.slice p3 s.cF.length c3],.int .i64 z1,.bool yes] w1 (fM w1 l1)):=hid (by rw [wN];exact fun w1 hb=>je.out z1 af af yes w1 hb);clear HR cD ke bP cO Hn Hq lN cH je kj Hf ht hl0 wN hz0 hz1 gG iH eO fu fX fB ep A0 Gz GC fS hk2 hq ZQ fN zN nu si;generalize ns[n]=x at*;obtain⟨xk,xt,xp,xc,dx,eY⟩:=x;simp only at az k0 k1 k2 k3;subst az;generalize s.vars.length=n0 at*;generalize s.uses.length=n1 at*;generalize s.funcs.length=n2 at*;generalize s.cF.length=n3 at*;generalize ns.length=L at*;obtain⟨iT,hiT,zT0,zT1,zT2⟩:=info_parts Tryz.Tz;by_cases hy:yes=true
 ·exact TV
 ·obtain rfl:yes=false:=by cases yes<;>first|rfl|exact absurd rfl hy
  have hr:R=l0++l1:=pF.out;subst hr;clear pF hy;go_enter Tryz.func34,Tryz.ntmps34;go_wp2;obtain⟨wz,nI⟩:∃wz,wz=(W.alloc (.cells #[.slice p0 n0 c0,.slice p1 n1 c1,.slice p2 n2 c2,.slice p3 n3 c3] 28)).alloc (.cells #[.int .i64 30,.string xt,.slice (some ⟨bk,ok,none⟩) q xc,.int .i64 eY] 56):=⟨_,rfl⟩;rw [←nI];have EI:Below W.heap.size W wz:=Cp;have hz1:wz.heap[W.heap.size]?=some (.cells #[.slice p0 n0 c0,.slice p1 n1 c1,.slice p2 n2 c2,.slice p3 n3 c3] 28 (0,0)):=by rw [nI,(au _ _).block _ ak];exact heap_alloc_new _ _
  have hz2:wz.heap[W.heap.size+1]?=some (.cells #[.int .i64 30,.string xt,.slice (some ⟨bk,ok,none⟩) q xc,.int .i64 eY] 56 (0,0)):=by
   rw [nI];have:=heap_alloc_new (W.alloc (.cells #[.slice p0 n0 c0,.slice p1 n1 c1,.slice p2 n2 c2,.slice p3 n3 c3] 28)) (.cells #[.int .i64 30,.string xt,.slice (some ⟨bk,ok,none⟩) q xc,.int .i64 eY] 56);exact Kn
  have xP:=hid (Array.getElem?_eq_some_iff.1 hz1).1;have IG:=hid (Array.getElem?_eq_some_iff.1 hz2).1;have x0:wz.cell? ⟨W.heap.size,0,none⟩=some (.slice p0 n0 c0):=ir;have x1:wz.cell? ⟨W.heap.size,1,none⟩=some (.slice p1 n1 c1):=ir;have x2:wz.cell? ⟨W.heap.size,2,none⟩=some (.slice p2 n2 c2):=ir;have x3:wz.cell? ⟨W.heap.size,3,none⟩=some (.slice p3 n3 c3):=ir;have y1:wz.cell? ⟨W.heap.size+1,1,none⟩=some (.string xt):=uy;have y2:wz.cell? ⟨W.heap.size+1,2,none⟩=some (.slice (some ⟨bk,ok,none⟩) q xc):=uy;have r8:=hid EI;clear EI hz1 hz2 nI;refine wp_region_any ai ?_;refine Am.cJ _ 17 rfl ai ?_;simp only [List.take_succ_cons,List.take_zero];refine Am.cJ _ 16 rfl ai ?_;simp only [List.take_succ_cons,List.take_zero];refine Am.bM (Φ:=zB (.slice (some ⟨b,o,none⟩) L c) (.agg #[.slice p0 n0 c0,.slice p1 n1 c1,.slice p2 n2 c2,.slice p3 n3 c3]) (.slice (some ⟨bk,ok,none⟩) q xc) (W.heap.size+1) bk ok z0 z1 0 0 false W.heap.size l0 l1) (w0:=wz) ai ai ur ?_ ?_ _ ((Below.refl _ _).drew)
  ·have aag:=trivial;exact aii
  ·exact aee
 ):p:=h
theorem aik (h:p:=by
 have hk2:=jQ ht hn (.inl az);rw [cD] at az;rw [bP] at hk2;have fS:=cM ht n;rw [bP] at fS;have eD:0<ns[n].kids.length:=af;obtain⟨lq,rq,fu,nu,fN⟩:=bQ cH.out eD;have fB:=lN.out ns[n].kids[0] (List.getElem_mem eD);obtain⟨z0,hz0⟩:∃z:Nat,ns[n].kids[0]=(z:Int):=⟨(ns[n].kids[0]).toNat,by omega⟩;rw [hz0] at fB;have gG:ns[n].kids.getD 0 0=(z0:Int):=zL;rw [gG] at fN;have A0:fV ns (ns[n].kids.take 0)+wt ns z0≤fV ns ns[n].kids:=zM;have fq:1<ns[n].kids.length:=af;obtain⟨AO,Nf,fX,si,zN⟩:=bQ cH.out fq;have ep:=lN.out ns[n].kids[1] (List.getElem_mem fq);obtain⟨z1,hz1⟩:∃z:Nat,ns[n].kids[1]=(z:Int):=⟨(ns[n].kids[1]).toNat,by omega⟩;rw [hz1] at ep;have iH:ns[n].kids.getD 1 0=(z1:Int):=Cq;rw [iH] at zN;have Gz:fV ns (ns[n].kids.take 1)+wt ns z1≤fV ns ns[n].kids:=Cr;rw [Nat.add_zero] at fN;obtain⟨bk,ok,eO,lg,kc0⟩:∃bk ok,ns[n].kp=some ⟨bk,ok,none⟩∧bk<W.heap.size∧W.cell? ⟨bk,ok,none⟩=some (.int .i64 z0):=⟨lq,rq,fu,nu,fN⟩;have kc1:W.cell? ⟨bk,ok+1,none⟩=some (.int .i64 z1):=by rw [eO] at fX;cases fX;exact zN
 have GC:wt ns z0+wt ns z1≤wt ns n:=by
  exact Kr
 rw [eO] at k2;obtain⟨q,hq⟩:∃q,q=ns[n].kids.length:=⟨_,rfl⟩;rw [←hq] at k2 eD fq;have q0:(0:Int)<(q:Int):=af;have q1:(1:Int)<(q:Int):=af;have q2:¬q=0:=af;obtain⟨rv,hrv⟩:∃v,v=(dN ns s.vars s.uses z0 z1).1:=⟨_,rfl⟩;obtain⟨rk,hrk⟩:∃v,v=(dN ns s.vars s.uses z0 z1).2:=⟨_,rfl⟩;obtain⟨sv,nR⟩:∃v,v=(dN ns s.vars s.uses z1 z0).1:=⟨_,rfl⟩;obtain⟨sk,hsk⟩:∃v,v=(dN ns s.vars s.uses z1 z0).2:=⟨_,rfl⟩;have pF:Hid (R=if ns[n].text.toList≠XR∧ns[n].text.toList≠neW then [] else if(if rv<0 then sv else rv)<0 then [] else [((if rv<0 then sv else rv),if(decide (ns[n].text.toList=XR)) !=yes then 127 - (if rv<0 then sk else rk) else(if rv<0 then sk else rk))]):=hid (by
  rw [HR.out,if_neg cX,if_neg cX,if_neg cX,if_neg cX,if_pos az,gG,iH];unfold eqP;rw [←hrv];by_cases h:rv<0
  ·simp only [if_pos h,←nR,←hsk]
  ·simp only [if_neg h,←hrv,←hrk])
 have bO:bits .andNot .i64 127 rk=127 - rk:=by rw [hrk];exact om ns s.vars s.uses z0 z1
 have Ye:bits .andNot .i64 127 sk=127 - sk:=by rw [hsk];exact om ns s.vars s.uses z1 z0
 have E0:Hid (∀w1,Below W.heap.size W w1→Calls Tryz.prog 78 #[.slice (some ⟨b,o,none⟩) ns.length c,.agg #[.slice p0 s.vars.length c0,.slice p1 s.uses.length c1,.slice p2 s.funcs.length c2,.slice p3 s.cF.length c3],.int .i64 z0,.int .i64 z1] w1 fun e w'=>e=.returned (.tuple #[.int .i64 rv,.int .i64 rk])∧Below w1.heap.size w1 w'):=hid (by rw [hrv,hrk];exact Hq.out z0 z1 af af);have E1:Hid (∀w1,Below W.heap.size W w1→Calls Tryz.prog 78 #[.slice (some ⟨b,o,none⟩) ns.length c,.agg #[.slice p0 s.vars.length c0,.slice p1 s.uses.length c1,.slice p2 s.funcs.length c2,.slice p3 s.cF.length c3],.int .i64 z1,.int .i64 z0] w1 fun e w'=>e=.returned (.tuple #[.int .i64 sv,.int .i64 sk])∧Below w1.heap.size w1 w'):=hid (by rw [nR,hsk];exact Hq.out z1 z0 af af);clear HR cD ke bP cO Hn Hq lN cH je kj Hf ht hrv hrk nR hsk hz0 hz1 gG iH eO fu fX fB ep A0 Gz GC fS hk2 hq ZQ fN zN nu si;generalize ns[n]=x at*;obtain⟨xk,xt,xp,xc,dx,eY⟩:=x;simp only at az k0 k1 k2 k3 pF;subst az;generalize s.vars.length=n0 at*;generalize s.uses.length=n1 at*;generalize s.funcs.length=n2 at*;generalize s.cF.length=n3 at*;generalize ns.length=L at*;cases xx:(xt.toList==[61,61]) with
 |true=>
  have heq:xt.toList=XR:=eq_of_beq xx;have HR3:Hid (R=if(if rv<0 then sv else rv)<0 then [] else [((if rv<0 then sv else rv),if true !=yes then 127 - (if rv<0 then sk else rk) else(if rv<0 then sk else rk))]):=hid (by rw [pF.out,if_neg (fun h=>h.1 heq),decide_eq_true heq]);clear pF heq;go_enter Tryz.func34,Tryz.ntmps34;go_wp2;obtain⟨wz,nI⟩:∃wz,wz=(W.alloc (.cells #[.slice p0 n0 c0,.slice p1 n1 c1,.slice p2 n2 c2,.slice p3 n3 c3] 28)).alloc (.cells #[.int .i64 27,.string xt,.slice (some ⟨bk,ok,none⟩) q xc,.int .i64 eY] 56):=⟨_,rfl⟩;rw [←nI];have EI:Below W.heap.size W wz:=Cp;have hz1:wz.heap[W.heap.size]?=some (.cells #[.slice p0 n0 c0,.slice p1 n1 c1,.slice p2 n2 c2,.slice p3 n3 c3] 28 (0,0)):=by rw [nI,(au _ _).block _ ak];exact heap_alloc_new _ _
  have hz2:wz.heap[W.heap.size+1]?=some (.cells #[.int .i64 27,.string xt,.slice (some ⟨bk,ok,none⟩) q xc,.int .i64 eY] 56 (0,0)):=by
   exact aeR
  have xP:=hid (Array.getElem?_eq_some_iff.1 hz1).1;have IG:=hid (Array.getElem?_eq_some_iff.1 hz2).1;have x0:wz.cell? ⟨W.heap.size,0,none⟩=some (.slice p0 n0 c0):=ir;have x1:wz.cell? ⟨W.heap.size,1,none⟩=some (.slice p1 n1 c1):=ir;have x2:wz.cell? ⟨W.heap.size,2,none⟩=some (.slice p2 n2 c2):=ir;have x3:wz.cell? ⟨W.heap.size,3,none⟩=some (.slice p3 n3 c3):=ir;have y1:wz.cell? ⟨W.heap.size+1,1,none⟩=some (.string xt):=uy;have y2:wz.cell? ⟨W.heap.size+1,2,none⟩=some (.slice (some ⟨bk,ok,none⟩) q xc):=uy;have r8:=hid EI;clear EI hz1 hz2 nI;refine Am.qg (Φ:=zA (.slice (some ⟨b,o,none⟩) L c) (.agg #[.slice p0 n0 c0,.slice p1 n1 c1,.slice p2 n2 c2,.slice p3 n3 c3]) (.slice (some ⟨bk,ok,none⟩) q xc) (W.heap.size+1) bk ok z0 z1 rv rk) ai ai ai uo ?_ ?_
  ·exact aef
  ·intro ca w1 hb hd hs aT bp;have h11:ca.tmps.getD 11 undef=.int .i64 rv:=aT 14 _ 11 rfl rfl;have O4:ca.tmps.getD 12 undef=.int .i64 rk:=aT 15 _ 12 rfl rfl;have bf:=Am.bC hd hs bp;simp only [List.foldl_cons,List.foldl_nil,h11,O4] at bf;generalize ca.tmps.getD 83 undef=y83 at bf;generalize ca.tmps.getD 84 undef=y84 at bf;generalize ca.tmps.getD 85 undef=y85 at bf;generalize ca.tmps.getD 86 undef=y86 at bf;generalize ca.tmps.getD 87 undef=y87 at bf;generalize ca.tmps.getD 88 undef=y88 at bf;generalize ca.tmps.getD 89 undef=y89 at bf;generalize ca.tmps.getD 90 undef=y90 at bf;generalize ca.tmps.getD 91 undef=y91 at bf;generalize ca.tmps.getD 92 undef=y92 at bf;generalize ca.tmps.getD 93 undef=y93 at bf;generalize ca.tmps.getD 94 undef=y94 at bf;generalize ca.tmps.getD 95 undef=y95 at bf;generalize ca.tmps.getD 96 undef=y96 at bf;subst bf;simp only [List.setIfInBounds_toArray,List.set_cons_succ,List.set_cons_zero];have rj:=hid (r8.out.trans (hb.mono r8.out.size));have mM:=hid hb;clear hb hd hs aT bp h11 O4;by_cases g1:rv<0
   ·have Ki:Hid (R=if sv<0 then [] else [(sv,if true !=yes then 127 - sk else sk)]):=hid (by rw [HR3.out];simp only [if_pos g1]);have x0:=(mM.out.cell (p:=⟨W.heap.size,0,none⟩) xP.out).trans x0;have x1:=(mM.out.cell (p:=⟨W.heap.size,1,none⟩) xP.out).trans x1;have x2:=(mM.out.cell (p:=⟨W.heap.size,2,none⟩) xP.out).trans x2;have x3:=(mM.out.cell (p:=⟨W.heap.size,3,none⟩) xP.out).trans x3;have y1:=(mM.out.cell (p:=⟨W.heap.size+1,1,none⟩) IG.out).trans y1;have y2:=(mM.out.cell (p:=⟨W.heap.size+1,2,none⟩) IG.out).trans y2;have xP:=hid (Nat.lt_of_lt_of_le xP.out mM.out.size);have IG:=hid (Nat.lt_of_lt_of_le IG.out mM.out.size);have r8:=rj;clear HR3 mM rj;generalize w1=wy at*;go_wp2;refine Am.qg (Φ:=uq (.slice (some ⟨b,o,none⟩) L c) (.agg #[.slice p0 n0 c0,.slice p1 n1 c1,.slice p2 n2 c2,.slice p3 n3 c3]) (.slice (some ⟨bk,ok,none⟩) q xc) (W.heap.size+1) bk ok z0 z1 sv sk) ai ai ai rF ?_ ?_
    ·exact aed
    ·intro ca w1 hb hd hs aT bp;have h11:ca.tmps.getD 11 undef=.int .i64 sv:=aT 14 _ 11 rfl rfl;have O4:ca.tmps.getD 12 undef=.int .i64 sk:=aT 15 _ 12 rfl rfl;have bf:=Am.bC hd hs bp;simp only [List.foldl_cons,List.foldl_nil,h11,O4] at bf;generalize ca.tmps.getD 99 undef=y99 at bf;generalize ca.tmps.getD 100 undef=aqR at bf;generalize ca.tmps.getD 101 undef=aqS at bf;generalize ca.tmps.getD 102 undef=aqT at bf;generalize ca.tmps.getD 103 undef=aqU at bf;generalize ca.tmps.getD 104 undef=aqV at bf;generalize ca.tmps.getD 105 undef=aqW at bf;generalize ca.tmps.getD 106 undef=aqX at bf;generalize ca.tmps.getD 107 undef=aqY at bf;generalize ca.tmps.getD 108 undef=aqZ at bf;generalize ca.tmps.getD 109 undef=aq0 at bf;generalize ca.tmps.getD 110 undef=aq1 at bf;generalize ca.tmps.getD 111 undef=aq2 at bf;generalize ca.tmps.getD 112 undef=ayE at bf;subst bf;simp only [List.setIfInBounds_toArray,List.set_cons_succ,List.set_cons_zero];have rj:=hid (r8.out.trans (hb.mono r8.out.size));have mM:=hid hb;clear hb hd hs aT bp h11 O4;have y1:=(mM.out.cell (p:=⟨W.heap.size+1,1,none⟩) IG.out).trans y1;generalize w1=wy2 at*;by_cases g2:sv<0
     ·exact UI
     ·cases yes with
      |true=>
       exact T9
      |false=>
       exact T4
   ·have Ki:Hid (R=if rv<0 then [] else [(rv,if true !=yes then 127 - rk else rk)]):=hid (by rw [HR3.out];simp only [if_neg g1]);have y1:=(mM.out.cell (p:=⟨W.heap.size+1,1,none⟩) IG.out).trans y1;clear HR3;by_cases g2:rv<0
    ·exact absurd g2 g1
    ·cases yes with
     |true=>
      exact Ua
     |false=>
      exact T5
 |false=>
  have hne:¬xt.toList=XR:=fun e=>by rw [e] at xx;exact absurd xx aj
  cases htc:(xt.toList==[126,61]) with
  |false=>
   have xu:¬xt.toList=neW:=fun e=>by rw [e] at htc;exact absurd htc aj
   have hr:R=[]:=by rw [pF.out,if_pos ⟨hne,xu⟩]
   subst hr;clear pF hne xu E0 E1;exact Kb
  |true=>
  have heq:xt.toList=neW:=eq_of_beq htc;have HR3:Hid (R=if(if rv<0 then sv else rv)<0 then [] else [((if rv<0 then sv else rv),if false !=yes then 127 - (if rv<0 then sk else rk) else(if rv<0 then sk else rk))]):=hid (by rw [pF.out,if_neg (fun h=>h.2 heq),decide_eq_false hne]);clear pF heq hne;go_enter Tryz.func34,Tryz.ntmps34;go_wp2;obtain⟨wz,nI⟩:∃wz,wz=(W.alloc (.cells #[.slice p0 n0 c0,.slice p1 n1 c1,.slice p2 n2 c2,.slice p3 n3 c3] 28)).alloc (.cells #[.int .i64 27,.string xt,.slice (some ⟨bk,ok,none⟩) q xc,.int .i64 eY] 56):=⟨_,rfl⟩;rw [←nI];have EI:Below W.heap.size W wz:=Cp;have hz1:wz.heap[W.heap.size]?=some (.cells #[.slice p0 n0 c0,.slice p1 n1 c1,.slice p2 n2 c2,.slice p3 n3 c3] 28 (0,0)):=by rw [nI,(au _ _).block _ ak];exact heap_alloc_new _ _
  have hz2:wz.heap[W.heap.size+1]?=some (.cells #[.int .i64 27,.string xt,.slice (some ⟨bk,ok,none⟩) q xc,.int .i64 eY] 56 (0,0)):=by
   exact aeR
  have xP:=hid (Array.getElem?_eq_some_iff.1 hz1).1;have IG:=hid (Array.getElem?_eq_some_iff.1 hz2).1;have x0:wz.cell? ⟨W.heap.size,0,none⟩=some (.slice p0 n0 c0):=ir;have x1:wz.cell? ⟨W.heap.size,1,none⟩=some (.slice p1 n1 c1):=ir;have x2:wz.cell? ⟨W.heap.size,2,none⟩=some (.slice p2 n2 c2):=ir;have x3:wz.cell? ⟨W.heap.size,3,none⟩=some (.slice p3 n3 c3):=ir;have y1:wz.cell? ⟨W.heap.size+1,1,none⟩=some (.string xt):=uy;have y2:wz.cell? ⟨W.heap.size+1,2,none⟩=some (.slice (some ⟨bk,ok,none⟩) q xc):=uy;have r8:=hid EI;clear EI hz1 hz2 nI;refine Am.qg (Φ:=zA (.slice (some ⟨b,o,none⟩) L c) (.agg #[.slice p0 n0 c0,.slice p1 n1 c1,.slice p2 n2 c2,.slice p3 n3 c3]) (.slice (some ⟨bk,ok,none⟩) q xc) (W.heap.size+1) bk ok z0 z1 rv rk) ai ai ai uo ?_ ?_
  ·exact aef
  ·intro ca w1 hb hd hs aT bp;have h11:ca.tmps.getD 11 undef=.int .i64 rv:=aT 14 _ 11 rfl rfl;have O4:ca.tmps.getD 12 undef=.int .i64 rk:=aT 15 _ 12 rfl rfl;have bf:=Am.bC hd hs bp;simp only [List.foldl_cons,List.foldl_nil,h11,O4] at bf;obtain⟨yf,jL⟩:∃y:Nat→Value,∀t,ca.tmps.getD t undef=y t:=⟨_,fun _=>rfl⟩;simp only [jL] at bf;clear jL;subst bf;simp only [List.setIfInBounds_toArray,List.set_cons_succ,List.set_cons_zero];have rj:=hid (r8.out.trans (hb.mono r8.out.size));have mM:=hid hb;clear hb hd hs aT bp h11 O4;by_cases g1:rv<0
   ·have Ki:Hid (R=if sv<0 then [] else [(sv,if false !=yes then 127 - sk else sk)]):=hid (by rw [HR3.out];simp only [if_pos g1]);have x0:=(mM.out.cell (p:=⟨W.heap.size,0,none⟩) xP.out).trans x0;have x1:=(mM.out.cell (p:=⟨W.heap.size,1,none⟩) xP.out).trans x1;have x2:=(mM.out.cell (p:=⟨W.heap.size,2,none⟩) xP.out).trans x2;have x3:=(mM.out.cell (p:=⟨W.heap.size,3,none⟩) xP.out).trans x3;have y1:=(mM.out.cell (p:=⟨W.heap.size+1,1,none⟩) IG.out).trans y1;have y2:=(mM.out.cell (p:=⟨W.heap.size+1,2,none⟩) IG.out).trans y2;have xP:=hid (Nat.lt_of_lt_of_le xP.out mM.out.size);have IG:=hid (Nat.lt_of_lt_of_le IG.out mM.out.size);have r8:=rj;clear HR3 mM rj;generalize w1=wy at*;go_wp2;refine Am.qg (Φ:=uq (.slice (some ⟨b,o,none⟩) L c) (.agg #[.slice p0 n0 c0,.slice p1 n1 c1,.slice p2 n2 c2,.slice p3 n3 c3]) (.slice (some ⟨bk,ok,none⟩) q xc) (W.heap.size+1) bk ok z0 z1 sv sk) ai ai ai rF ?_ ?_
    ·exact aed
    ·intro ca w1 hb hd hs aT bp;have h11:ca.tmps.getD 11 undef=.int .i64 sv:=aT 14 _ 11 rfl rfl;have O4:ca.tmps.getD 12 undef=.int .i64 sk:=aT 15 _ 12 rfl rfl;have bf:=Am.bC hd hs bp;simp only [List.foldl_cons,List.foldl_nil,h11,O4] at bf;obtain⟨yf,jL⟩:∃y:Nat→Value,∀t,ca.tmps.getD t undef=y t:=⟨_,fun _=>rfl⟩;simp only [jL] at bf;clear jL;subst bf;simp only [List.setIfInBounds_toArray,List.set_cons_succ,List.set_cons_zero];have rj:=hid (r8.out.trans (hb.mono r8.out.size));have mM:=hid hb;clear hb hd hs aT bp h11 O4;have y1:=(mM.out.cell (p:=⟨W.heap.size+1,1,none⟩) IG.out).trans y1;generalize w1=wy2 at*;by_cases g2:sv<0
     ·exact UI
     ·cases yes with
      |true=>
       exact T4
      |false=>
       exact T9
   ·have Ki:Hid (R=if rv<0 then [] else [(rv,if false !=yes then 127 - rk else rk)]):=hid (by rw [HR3.out];simp only [if_neg g1]);have y1:=(mM.out.cell (p:=⟨W.heap.size+1,1,none⟩) IG.out).trans y1;clear HR3;by_cases g2:rv<0
    ·exact absurd g2 g1
    ·cases yes with
     |true=>
      exact T5
     |false=>
      exact Ua
 ):p:=h
theorem TA (h:p:=by
 obtain⟨b,o,hp,bO,ct,aG,k0,k1,k2,k3⟩:=bh hN hn;have cD:=aL ct;have ke:dS ns (n:Int)=(ns[n]).text.toList:=ri;have bP:ax ns (n:Int)=(ns[n]).kids:=iA;have cO:=bH ht (n:=(n:Int)) af;rw [bP] at cO;obtain⟨R,hR⟩:∃R,R=aW ns s.vars s.uses (k+1) n yes:=⟨_,rfl⟩;rw [←hR];unfold aW n9 uU at hR;rw [cD,ke,bP] at hR;have a0:(0:Int)≤(n:Int):=af;have a1:(n:Int)<(ns.length:Int):=af;have lN:=hid cO;have cH:=hid aG;have HR:=hid hR;have je:=hid IH;have kj:=hid ht;have Hf:=hid hf;have Hn:Hid (∀(n:Nat),n<ns.length→∀w1,Below W.heap.size W w1→Calls Tryz.prog 77 #[.slice p ns.length c,.agg #[v0,v1,v2,v3],.int .i64 n] w1 fun e w'=>e=.returned (.int .i64 (fL ns s.vars s.uses n))∧Below w1.heap.size w1 w'):=hid (fun n hn w1 hb=>Jv w1 p c ns (aF hb hN) v0 v1 v2 v3 s (hs.later hb) hf n hn);have Hq:Hid (∀(a d:Nat),a<ns.length→d<ns.length→∀w1,Below W.heap.size W w1→Calls Tryz.prog 78 #[.slice p ns.length c,.agg #[v0,v1,v2,v3],.int .i64 a,.int .i64 d] w1 fun e w'=>e=.returned (.tuple #[.int .i64 (dN ns s.vars s.uses a d).1,.int .i64 (dN ns s.vars s.uses a d).2])∧Below w1.heap.size w1 w'):=hid (fun a d ha hd w1 hb=>L3 w1 p c ns (aF hb hN) ht v0 v1 v2 v3 s (hs.later hb) hf a d ha hd);obtain⟨⟨p0,c0,rfl,h0⟩,⟨p1,c1,rfl,h1⟩,⟨p2,c2,rfl,h2⟩,⟨p3,c3,rfl,h3⟩,_⟩:=hs;subst hp;clear hR h0 h1 h2 h3 hN ct aG IH hf
 first
 |(have:=ZR;exact aie)
 |(have:=ZT;exact aif)
 |(have:=ZU;exact aih)
 |(have:=ZV;exact aij)
 |(have:=ZW;exact aik)
 ):p:=h
theorem ail (h:p:=by
 refine Am.eT (Φ:=Ke FB q0 u4 (y.vars.length:Int)) (I:=uu FB p c ns.length y q0 u1 u2 u3 u4 u5 w4) (S:=wM) ai ai zC (fun z=>?_) vF ?_ ?_ _ (AV _ (Nat.le_of_ble_eq_true rfl))
 ·exact aeW
 ·exact amE
 ·have aai:=trivial;exact amD
 ):p:=h
theorem aim (h:p:=by
 refine Am.eT (Φ:=Ke FB q0 u4 (y.vars.length:Int)) (I:=uu FB p c ns.length y q0 u1 u2 u3 u4 u5 w4) (S:=wM) ai ai zC (fun z=>?_) vF ?_ ?_ _ (AV _ (Nat.le_of_ble_eq_true rfl))
 ·exact aeW
 ·exact amE
 ·have aaj:=trivial;exact ana
 ):p:=h
theorem anb (h:p:=by
 have avc:¬(200:Int)<m+1:=Kc;have Gs:cY ns s n fn=kD {s0 with many:=s0.many.set fn (m+1)} n fn:=by
  rw [Gt,ec,if_neg Kc,eb]
 clear eb ec Gt;go_wp2;have h3:=H3x.out;have ZX:=TE.out;obtain⟨w3,hw3⟩:∃w3,w3=wk.setCell ⟨gm,fn,none⟩ (.int .i64 (m+1)):=⟨_,rfl⟩;rw [←hw3] at h3 ZX ⊢;obtain⟨t,ht⟩:∃t:Fs,t={s0 with many:=s0.many.set fn (m+1)}:=⟨_,rfl⟩;rw [←ht] at h3 ZX;have ht1:t.uses.length=ns.length:=by rw [ht];exact ahO
 have ht2:t.vars.length≤100000:=by rw [ht];exact ahP
 have ht3:t.seen.length≤100000:=by rw [ht];exact ahQ
 have jc:Hid (cY ns s n fn={t with uses:=t.uses.set n (t.vars.length:Int),seen:=t.seen++[(t.vars.length:Int)],vars:=t.vars++[⟨n,fn,false,false⟩]}):=hid (by rw [Gs,←ht];unfold kD;rw [Int.toNat_natCast]);generalize (Value.slice (some ⟨gm,0,none⟩) s0.many.length cm)=u5 at*;clear hw3 ht Gs TE H3x;obtain⟨g1,cu,rfl,hg1,cu1,fu1,Tu,Tv⟩:=ints_at (h3.rows.rows 0 _ _ rfl rfl) (show n<t.uses.length by omega);have d1:=h3.cell 1;have d2:=h3.cell 2;simp only [List.getElem?_toArray,List.getElem?_cons_succ,List.getElem?_cons_zero] at d1 d2;have iZ:¬FB=g1:=af;have hF2:¬g1=FB:=af;have Xe:(n:Int)<(t.uses.length:Int):=af;obtain⟨av,cv,hv0⟩:∃av cv,u0=.slice av t.vars.length cv:=by
  exact ah8
 subst hv0;have H3:=hid h3;have HP3:=hid ZX;clear h3 ZX;go_region;obtain⟨w4,hw4⟩:∃w4,w4=(w3.setCell ⟨g1,n,none⟩ (.int .i64 (t.vars.length:Int))).drew:=⟨_,rfl⟩;rw [←hw4];have FI:n<t.uses.length:=af;have h4:cC FB p c ns.length w4 {t with uses:=t.uses.set n (t.vars.length:Int)} (.slice av t.vars.length cv) (.slice (some ⟨g1,0,none⟩) t.uses.length cu) u2 u3 u4 u5:=by rw [hw4];exact(H3.out.iR rfl FI _).later (Below.refl _ _).drew
 have hP4:FP FB p c ns.length {t with uses:=t.uses.set n (t.vars.length:Int)} W w4:=HP3.out.trans (h4.fp (by rw [hw4];exact((Below.refl FB w3).setCell (p:=⟨g1,n,none⟩) (show FB≤g1 by omega) _).drew) (by rw [hw4];exact(kR _ (nL (H3.out.rows.rows 0 _ _ rfl rfl))).trans (dH (Below.refl _ _).drew)) (by rw [hw4];simp));have N8:{t with uses:=t.uses.set n (t.vars.length:Int)}.vars=t.vars∧{t with uses:=t.uses.set n (t.vars.length:Int)}.seen=t.seen:=⟨rfl,rfl⟩;obtain⟨y,hy⟩:∃y:Fs,y={t with uses:=t.uses.set n (t.vars.length:Int)}:=⟨_,rfl⟩;rw [←hy] at h4 hP4 N8;rw [←N8.1] at h4;rw [←N8.1] at ht2;rw [←N8.2] at ht3;have Hy:=hid hy;have HT9:=hid N8;clear N8;generalize (Value.slice (some ⟨g1,0,none⟩) t.uses.length cu)=u1 at*;generalize yz:(Value.slice av y.vars.length cv)=q0 at*;have DA:FB≤w4.heap.size:=by have:=h4.lt;omega
 have AV:∀ca,64<ca.tmps.size→uu FB p c ns.length y q0 u1 u2 u3 u4 u5 w4 (fun _=>false) ca w4.drew:=fun _ bf=>⟨(Below.refl _ _).drew,dH (Below.refl _ _).drew,Nat.le_refl _,h4.heap,fun _=>h4.later (Below.refl _ _).drew,bf,fun h=>nomatch h⟩
 have H4:=hid h4;have HP4:=hid hP4;clear h4 hP4 hw4 hy H3 HP3 d1 d2 cu1 fu1;go_wp2;refine wp_region_any ai ?_;refine Am.cJ _ 15 rfl ai ?_;simp only [List.take_succ_cons,List.take_zero];refine Am.cJ _ 14 rfl ai ?_;simp only [List.take_succ_cons,List.take_zero];refine Am.cJ _ 13 rfl ai ?_;simp only [List.take_succ_cons,List.take_zero]
 first
 |(have:=aak;exact ail)
 |(have:=aal;exact aim)
 ):p:=h
theorem ain (h:p:=by
 by_cases h1:s1.e=0
 ·have aam:=trivial;exact anc
 ·exact UN
 ):p:=h
theorem aio (h:p:=by
 by_cases h1:s1.e=0
 ·have aan:=trivial;exact anc
 ·exact UN
 ):p:=h
theorem alo (h:p:=by
 intro v' W1 k1 k2 k3;have IE:Below W.heap.size W ((W.alloc (.map #[] 0)).alloc (.cells #[.map (some W.heap.size)] 119)):=(au W (.map #[] 0)).trans ((au (W.alloc (.map #[] 0)) (.cells #[.map (some W.heap.size)] 119)).mono ak);have h7:=HF.out.later IE;have Fj:tR ((W.alloc (.map #[] 0)).alloc (.cells #[.map (some W.heap.size)] 119)) W.heap.size 0 (.map []):=(World.ownsMap_made W Tryz.prog 9 (plainElem Tryz.prog 3)).alloc (.cells #[.map (some W.heap.size)] 119);have L8:((W.alloc (.map #[] 0)).alloc (.cells #[.map (some W.heap.size)] 119)).grownBy W1 v4.ownBlock:=by rw [Hsv.out];exact k2
 have j8:fe W1 W.heap.size []:=fe.empty (Fj.kept L8 (fun e=>by
  have:=(h7.dr (g:=W.heap.size) (.inr (.inr (.inr (.inr (.inr (.inr (.inr e.symm)))))))).2;obtain⟨c1,f1,hh⟩:=jW HF.out.blocks e.symm;have:=(Array.getElem?_eq_some_iff.1 hh).1;omega)) rfl
 have hown:W1.ownsRow B 119 1 v' (aB++[W.heap.size]).length ((aB++[W.heap.size]).map fun b=>.map (some b)):=by
  have:=k1;rw [HQ.out] at this;simpa using this
 have hnm:W.heap.size ∉ aB:=fun h=>by
  have:=(HF.out.dr (g:=W.heap.size) (.inr (.inr (.inl h)))).2;omega
 have ar9:W.heap.size≠mm:=fun e=>by
  have:=HF.out.many.lt;omega
 have h8:=h7.Jt L8 hown j8 af hnm ar9;have Kw:W1.heap[FB]?=some (.cells #[.slice p ns.length c,v0,v1,v2,v3,v4,.map (some mm)] 189 (0,0)):=h7.other L8 (fF h7.blocks h7.heap aj);have q1c:W1.cell? ⟨FB,5,none⟩=some (.slice sv Q sc):=by rw [←Hsv.out];simp [World.cell?,Kw]
 have q1f:W1.frozen? ⟨FB,5,none⟩=false:=by simp [World.frozen?,Kw]
 obtain⟨sa,DD,DG,tH⟩:∃(a:Option Addr) (k1 k2:Nat),v'=.slice a k1 k2:=by
  exact Ku
 have hst:aK B W (W1.setCell ⟨FB,5,none⟩ v') (aJ FB mm aB v0 v1 v2 v3 v4) (aJ FB mm (aB++[W.heap.size]) v0 v1 v2 v3 v'):=by
  exact amQ
 have vE:=hid (And.intro h8 hst);subst tH;clear h7 h8 k1 k2 k3 hst j8 hown Fj IE Kw L8;go_wp2;refine(HC.out _ _ _ vE.out.1 vE.out.2).mono ?_;intro e w3 hE
 first
 |(have:=aao;exact ain)
 |(have:=Yc;exact aio)
 ):p:=h
theorem aip (h:p:=by
 obtain⟨vv,kk,hs,jM⟩:∃vv kk:Int,ca.tmps.getD 109 undef=.tuple #[.agg #[.int .i64 vv,.int .i64 kk],.bool ia]∧(ia=true→vv=ea.1∧kk=ea.2):=Am.aV (j:=9) ah ai rfl rfl;replace hs:=Am.aS hs;refine Am.bX Am.dm (Am.aD rfl rfl (Am.aU (v:=.tuple #[.agg #[.int .i64 vv,.int .i64 kk],.bool ia]) ?_ (hK _ _ (hI.keep aj aj aj (Below.refl _ _)) ⟨vv,kk,rfl,jM⟩)));exact Co
 ):p:=h
theorem aiq (h:p:=by
 obtain⟨vv,kk,hs,jM⟩:∃vv kk:Int,ca.tmps.getD 99 undef=.tuple #[.agg #[.int .i64 vv,.int .i64 kk],.bool ia]∧(ia=true→vv=ea.1∧kk=ea.2):=Am.aV (j:=10) ah ai rfl rfl;replace hs:=Am.aS hs;refine Am.bX Am.dm (Am.aD rfl rfl (Am.aU (v:=.agg #[.int .i64 vv,.int .i64 kk]) ?_ (hK _ _ (hI.keep aj aj aj (Below.refl _ _)) ⟨vv,kk,rfl,jM⟩)));exact Co
 ):p:=h
theorem air (h:p:=by
 obtain⟨vv,kk,hs,jM⟩:∃vv kk:Int,ca.tmps.getD 99 undef=.tuple #[.agg #[.int .i64 vv,.int .i64 kk],.bool ia]∧(ia=true→vv=ea.1∧kk=ea.2):=Am.aV (j:=10) ah ai rfl rfl;replace hs:=Am.aS hs;refine Am.rC rfl rfl (hK _ _ (hI.keep aj aj aj (Below.refl _ _)) rfl) ?_;exact Co
 ):p:=h
theorem ais (h:p:=by
 refine Am.bX Am.dm (Am.aD rfl rfl (Am.aU (v:=.pointer (some ⟨w1.heap.size,0,none⟩)) (w':=w1.alloc (.cells #[.int .i64 0,.int .i64 0] 58)) ?_ (hK _ _ (hI.alloc aj (T.behind 14 ai) (by rw [T.size];simp)) trivial)));generalize ca.eval=ev at*;simp [go_sem,execOp,hfn,hcs]
 ):p:=h
theorem ait (h:p:=by
 obtain⟨vv,kk,hs,jM⟩:∃vv kk:Int,ca.tmps.getD 110 undef=.agg #[.int .i64 vv,.int .i64 kk]∧(ia=true→vv=ea.1∧kk=ea.2):=Am.aV (j:=11) ah ai rfl rfl;obtain⟨U,a,b,h10,hU,hUN,_⟩:=hI.box (T.ahead 13 ai);have hc0:w1.cell? ⟨U,0,none⟩=some (.int .i64 a):=wu;have hc1:w1.cell? ⟨U,1,none⟩=some (.int .i64 b):=wu;have hcf:∀k,w1.frozen? ⟨U,k,none⟩=false:=fun k=>by simp [World.frozen?,hU]
 have hX:=hI.store aj (T.ahead 13 ai) lA pV.out.size h10 jM (u:=undef);replace hs:=Am.aS hs;have asa:=Am.aS h10;refine Am.bX Am.dm (Am.aD rfl rfl (GD (w':=(w1.setCell ⟨U,0,none⟩ (.int .i64 vv)).setCell ⟨U,1,none⟩ (.int .i64 kk)) ?_ (hK undef _ hX trivial)));generalize ca.eval=ev at*;simp [go_sem,execOp,hfn,hcs,hs,asa,hc0,hc1,hcf]
 ):p:=h
theorem aiu (h:p:=by
 obtain⟨vv,kk,hs,jM⟩:∃vv kk:Int,ca.tmps.getD 124 undef=.tuple #[.agg #[.int .i64 vv,.int .i64 kk],.bool ib]∧(ib=true→vv=eb.1∧kk=eb.2):=Am.aV (j:=9) ah ai rfl rfl;replace hs:=Am.aS hs;refine Am.bX Am.dm (Am.aD rfl rfl (Am.aU (v:=.tuple #[.agg #[.int .i64 vv,.int .i64 kk],.bool ib]) ?_ (hK _ _ (hI.keep aj (Below.refl _ _)) ⟨vv,kk,rfl,jM⟩)));exact Co
 ):p:=h
theorem aiv (h:p:=by
 obtain⟨vv,kk,hs,jM⟩:∃vv kk:Int,ca.tmps.getD 114 undef=.tuple #[.agg #[.int .i64 vv,.int .i64 kk],.bool ib]∧(ib=true→vv=eb.1∧kk=eb.2):=Am.aV (j:=10) ah ai rfl rfl;replace hs:=Am.aS hs;refine Am.bX Am.dm (Am.aD rfl rfl (Am.aU (v:=.agg #[.int .i64 vv,.int .i64 kk]) ?_ (hK _ _ (hI.keep aj (Below.refl _ _)) ⟨vv,kk,rfl,jM⟩)));exact Co
 ):p:=h
theorem aiw (h:p:=by
 obtain⟨vv,kk,hs,jM⟩:∃vv kk:Int,ca.tmps.getD 114 undef=.tuple #[.agg #[.int .i64 vv,.int .i64 kk],.bool ib]∧(ib=true→vv=eb.1∧kk=eb.2):=Am.aV (j:=10) ah ai rfl rfl;replace hs:=Am.aS hs;refine Am.rC rfl rfl (hK _ _ (hI.keep aj (Below.refl _ _)) rfl) ?_;exact Co
 ):p:=h
theorem GF (h:p:=by
 cases ho;have hI:=T.inv;have aX:=hI.below;have zK:=(aX.cell (p:=⟨TB,0,none⟩) l0).trans t0;have l7:w1.cell? ⟨W.heap.size,2,none⟩=some (.slice (some ⟨bk,ok,none⟩) q xc):=iK;have kf:=(aX.cell (p:=⟨bk,ok,none⟩) mK).trans kz;have pg:=(aX.cell (p:=⟨bk,ok+1,none⟩) mK).trans ED
 first
 |(have:=aap;exact aip)
 |(have:=aaq;exact aiq)
 |(have:=aar;exact air)
 |(have:=aas;exact ais)
 |(have:=aat;exact ait)
 |(have:=aau;exact aiu)
 |(have:=aav;exact aiv)
 |(have:=aaw;exact aiw)
 ):p:=h
theorem aix (h:p:=by
 rcases kq with _|_|_|_|_|_|_|_|_|_|_|_|_|_|_|_|kq
 ·exact L6
 ·exact Ug
 ·exact Gx
 ·cases ho;have aQ:=Am.lk 102 2 ah fun _=>rfl
  exact Cm
 ·cases ho;have aQ:=Am.lk 103 3 ah fun _=>rfl
  exact Cl
 ·cases ho;have aQ:=Am.lk 104 4 ah fun _=>rfl
  exact Uj
 ·exact Gx
 ·cases ho;have aQ:=Am.lk 106 6 ah fun _=>rfl
  exact Cm
 ·cases ho;have aQ:=Am.lk 107 7 ah fun _=>rfl
  exact Cl
 ·cases ho;have aQ:=Am.lk 108 8 ah fun _=>rfl
  exact Um
 ·cases ho;have aQ:=Am.lk 100 0 ah fun _=>rfl
  have nV:=Am.lk 101 1 ah fun _=>rfl
  have DN:=Am.lk 105 5 ah fun _=>rfl
  have Xm:=Am.lk 109 9 ah fun _=>rfl
  refine Am.aD rfl rfl (Am.dG (w':=w1) (f:=78) (args:=#[.slice (some ⟨b,o,none⟩) L c,.agg #[.slice p0 n0 c0,.slice p1 n1 c1,.slice p2 n2 c2,.slice p3 n3 c3],.int .i64 z1,.int .i64 z0]) ?_ ((E1.out w1 aX).mono ?_))
  ·exact Gw
  ·exact Bz
 ·cases ho;have aQ:=Am.lk 110 10 ah fun _=>rfl
  exact rG
 ·exact afC
 ·exact afC
 ·cases ho;have aQ:=Am.lk 111 12 ah fun _=>rfl
  exact rG
 ·cases ho;have aQ:=Am.lk 112 13 ah fun _=>rfl
  exact rG
 ·simp at ho
 ):p:=h
theorem aiy (h:p:=by
 rcases kq with _|_|_|_|_|_|_|_|_|_|_|_|_|_|_|_|kq
 ·exact L6
 ·exact Ug
 ·exact Gx
 ·cases ho;have aQ:=Am.lk 86 2 ah fun _=>rfl
  exact Cm
 ·cases ho;have aQ:=Am.lk 87 3 ah fun _=>rfl
  exact Cl
 ·cases ho;have aQ:=Am.lk 88 4 ah fun _=>rfl
  exact Um
 ·exact Gx
 ·cases ho;have aQ:=Am.lk 90 6 ah fun _=>rfl
  exact Cm
 ·cases ho;have aQ:=Am.lk 91 7 ah fun _=>rfl
  exact Cl
 ·cases ho;have aQ:=Am.lk 92 8 ah fun _=>rfl
  exact Uj
 ·cases ho;have aQ:=Am.lk 84 0 ah fun _=>rfl
  have nV:=Am.lk 85 1 ah fun _=>rfl
  have DN:=Am.lk 89 5 ah fun _=>rfl
  have Xm:=Am.lk 93 9 ah fun _=>rfl
  refine Am.aD rfl rfl (Am.dG (w':=w1) (f:=78) (args:=#[.slice (some ⟨b,o,none⟩) L c,.agg #[.slice p0 n0 c0,.slice p1 n1 c1,.slice p2 n2 c2,.slice p3 n3 c3],.int .i64 z0,.int .i64 z1]) ?_ ((E0.out w1 aX).mono ?_))
  ·exact Gw
  ·exact Bz
 ·cases ho;have aQ:=Am.lk 94 10 ah fun _=>rfl
  exact rG
 ·exact afD
 ·exact afD
 ·cases ho;have aQ:=Am.lk 95 12 ah fun _=>rfl
  exact rG
 ·cases ho;have aQ:=Am.lk 96 13 ah fun _=>rfl
  exact rG
 ·simp at ho
 ):p:=h
theorem amJ (h:p:=by
 have aax:=trivial;exact aii
 ):p:=h
theorem aiz (h:p:=by
 have HC:Hid (Calls Tryz.prog 217 #[.pointer (some ⟨FB,0,none⟩),.func (.func 218) #[] #[.pointer (some ⟨W.heap.size+4,0,none⟩),.pointer (some ⟨W.heap.size+3,0,none⟩)]] (cI W FB fn loop ns[n]) (A1 B FB p c ns mm aB (aJ FB mm aB v0 v1 v2 v3 v4) (cI W FB fn loop ns[n]) fY (sr (ns[n].kids.foldl (fun s q=>aA ns k q fn loop s) s) s))):=hid (by
  refine Ky xM.out fy af 218 _ (fun w=>rfl) (fun W1 OW mb iZ nH=>?_);exact Tc ht k n af kU IH fn loop W1 s fY [] (aB++[mb]) v0 v1 v2 v3 OW iZ hi fy.push (qM.out.trans nH.below) hfn ns[n] cO af af af he W.heap.size (HX.out.step nH) (EF.out.step nH))
 clear q0 q1 q2 q3 aX hF ct cD bW aG hN hb0 bz hi fy ht IH cO fS he qV vB hp;rw [pz.out] at az;generalize ns[n]=x at*;obtain⟨xk,xt,xp,xc,dx,eY⟩:=x;simp only at az k0 k1 k2 k3;subst az;go_enter Tryz.func172,Tryz.ntmps172;go_wp2_with (go_at_call 217;refine(HC.out).mono ?_);intro e w9 hE;have nU:A1 B FB p c ns mm aB (aJ FB mm aB v0 v1 v2 v3 v4) W fY (sr (dx.foldl (fun s q=>aA ns k q fn loop s) s) s) e w9:=A1.trans qL.out hE;exact DV
 ):p:=h
theorem aiA (h:p:=by
 have HC:Hid (Calls Tryz.prog 217 #[.pointer (some ⟨FB,0,none⟩),.func (.func 218) #[] #[.pointer (some ⟨W.heap.size+4,0,none⟩),.pointer (some ⟨W.heap.size+3,0,none⟩)]] (cI W FB fn loop ns[n]) (cE B FB p c ns mm aB (aJ FB mm aB v0 v1 v2 v3 v4) (cI W FB fn loop ns[n]) bl nm (sr (ns[n].kids.foldl (fun s q=>aA ns k q fn loop s) s) s))):=hid (by
  refine BC xM.out fy af 218 _ (fun w=>rfl) (fun W1 OW mb iZ nH=>?_);exact Tc ht k n af kU IH fn loop W1 s (bl++[nm]) [] (aB++[mb]) v0 v1 v2 v3 OW iZ hi fy.push (qM.out.trans nH.below) hfn ns[n] cO af af bt he W.heap.size (HX.out.step nH) (EF.out.step nH))
 clear q0 q1 q2 q3 aX hF ct cD bW aG hN hb0 bz hi fy ht IH cO fS he qV vB hp;rw [pz.out] at az;generalize ns[n]=x at*;obtain⟨xk,xt,xp,xc,dx,eY⟩:=x;simp only at az k0 k1 k2 k3;subst az;go_enter Tryz.func172,Tryz.ntmps172;go_wp2_with (go_at_call 217;refine(HC.out).mono ?_);intro e w9 hE;have nU:cE B FB p c ns mm aB (aJ FB mm aB v0 v1 v2 v3 v4) W bl nm (sr (dx.foldl (fun s q=>aA ns k q fn loop s) s) s) e w9:=cE.trans (ext:=[]) qL.out rE;exact DV
 ):p:=h
theorem amq (h:p:=by
 have hres:aA ns (k+1) n fn loop s=sr ((ax ns (n:Int)).foldl (fun s q=>aA ns k q fn loop s) s) s:=by
  exact amV
 rw [hres];clear hres;obtain⟨b,o,hp,bO,ct,aG,q0,q1,q2,q3⟩:=bh hN hn;have aX:=hb0.mono h0;have k0:=(aX.cell (p:=⟨b,_,none⟩) bO).trans q0;have k1:=(aX.cell (p:=⟨b,_,none⟩) bO).trans q1;have k2:=(aX.cell (p:=⟨b,_,none⟩) bO).trans q2;have k3:=(aX.cell (p:=⟨b,_,none⟩) bO).trans q3;have c0:W.cell? ⟨FB,0,none⟩=some (.slice (some ⟨b,o,none⟩) ns.length c):=iG;have sg:=hF.lt;have fR:=hF.ge;have Au:B≤W.heap.size:=af;have Gm:b<W.heap.size:=uj;have n0:(0:Int)≤(n:Int):=af;have n1:(n:Int)<(ns.length:Int):=af;have cD:=aL ct;have bW:ax ns (n:Int)=ns[n].kids:=iA;have fS:=cM ht n;have cO:=bH ht (n:=(n:Int)) af;rw [bW] at fS cO;have qV:∀g,aJ FB mm aB v0 v1 v2 v3 v4 g→g<W.heap.size:=fun g h=>(hF.dr h).2
 have vB:∀g,aJ FB mm aB v0 v1 v2 v3 v4 g→B≤g:=fun g h=>(hF.dr h).1
 have HX:=hid (iP qV FB fn loop ns[n]);have nE:=hid (cV W FB fn loop ns[n]);have qL:Hid (aK B W (cI W FB fn loop ns[n]) (aJ FB mm aB v0 v1 v2 v3 v4) (aJ FB mm aB v0 v1 v2 v3 v4)):=hid (aK.fresh nE.out Au);have xM:=hid (hF.later nE.out);have qM:=hid (hb0.trans qL.out.below);have EF:=hid (iQ aG qM.out h0 vB);have pz:=hid cD;have kH:=hid bW;have cH:=hid aG;have HN:=hid hN;have mD:=hid hb0;have kI:=hid bz;have Hi:=hid hi;have xE:=hid fy;have kj:=hid ht;have je:=hid IH;have lN:=hid cO;have Fp:=hid fS;have He:=hid he;have Qo:1≤wt ns n:=fQ ht.ahead n;rw [bW]
 first
 |(have:=aay;exact aiz)
 |(have:=ZJ;exact aiA)
 ):p:=h
theorem aiB (h:p:=by
 have h1:=Am.aS (Am.qh (t:=1) ah ai ai rfl);have hg:kL.tmps.getD 76 undef=.bool true:=Am.aV (j:=7) ah ai rfl rfl;refine Am.bX Am.dm (Am.gV rfl rfl rfl hg rfl (Am.aU (v:=.bool true) ?_ (hK _ _ (T2.inv.keep (Am.dO.jh ko aj nS)) rfl)));generalize kL.eval=ev at*;simp [go_sem,execOp,hfn,hcs,h1]
 ):p:=h
theorem aiC (h:p:=by
 have h1:=Am.aS (Am.qh (t:=1) ah ai ai rfl);have hg:kL.tmps.getD 76 undef=.bool true:=Am.aV (j:=7) ah ai rfl rfl;refine Am.bX Am.dm (Am.gV rfl rfl rfl hg rfl (Am.aU (v:=.bool false) ?_ (hK _ _ (T2.inv.keep (Am.dO.jh ko aj nS)) rfl)));generalize kL.eval=ev at*;simp [go_sem,execOp,hfn,hcs,h1]
 ):p:=h
theorem aiD (h:p:=by
 have h4:=Am.aS (Am.qh (t:=4) ah ai ai rfl);have hg:kL.tmps.getD 76 undef=.bool true:=Am.aV (j:=7) ah ai rfl rfl;refine Am.bX Am.dm (Am.gV rfl rfl rfl hg rfl (Am.aU (v:=.func (.func 124) #[] #[.pointer (some ⟨TB,0,none⟩),.pointer (some ⟨YB,0,none⟩),.pointer (some ⟨DB,0,none⟩)]) ?_ (hK _ _ (T2.inv.keep (Am.dO.jh ko aj nS)) rfl)));generalize kL.eval=ev at*;simp [go_sem,execOp,hfn,hcs,h4,Cj]
 ):p:=h
theorem aiE (h:p:=by
 have h79:kL.tmps.getD 79 undef=.slice (some ⟨bk,ok,none⟩) q xc:=Am.aV (j:=10) ah ai rfl rfl;replace h79:=Am.aS h79;have hg:kL.tmps.getD 76 undef=.bool true:=Am.aV (j:=7) ah ai rfl rfl;refine Am.bX Am.dm (Am.gV rfl rfl rfl hg rfl (Am.aU (v:=.pointer (some ⟨bk,ok+1,none⟩)) ?_ (hK _ _ (T2.inv.keep (Am.dO.jh ko aj nS)) rfl)));generalize kL.eval=ev at*;simp [go_sem,execOp,hfn,hcs,h79,hq3,hq4]
 ):p:=h
theorem aiF (h:p:=by
 have h78:kL.tmps.getD 78 undef=.pointer (some ⟨W.heap.size,2,none⟩):=Am.aV (j:=9) ah ai rfl rfl;replace h78:=Am.aS h78;have hg:kL.tmps.getD 76 undef=.bool true:=Am.aV (j:=7) ah ai rfl rfl;refine Am.bX Am.dm (Am.gV rfl rfl rfl hg rfl (Am.aU (v:=.slice (some ⟨bk,ok,none⟩) q xc) ?_ (hK _ _ (T2.inv.keep (Am.dO.jh ko aj nS)) rfl)));generalize kL.eval=ev at*;simp [go_sem,execOp,hfn,hcs,h78,l7]
 ):p:=h
theorem aiG (h:p:=by
 have h80:kL.tmps.getD 80 undef=.pointer (some ⟨bk,ok+1,none⟩):=Am.aV (j:=11) ah ai rfl rfl;replace h80:=Am.aS h80;have hg:kL.tmps.getD 76 undef=.bool true:=Am.aV (j:=7) ah ai rfl rfl;refine Am.bX Am.dm (Am.gV rfl rfl rfl hg rfl (Am.aU (v:=.int .i64 z1) ?_ (hK _ _ (T2.inv.keep (Am.dO.jh ko aj nS)) rfl)));generalize kL.eval=ev at*;simp [go_sem,execOp,hfn,hcs,h80,kf]
 ):p:=h
theorem aiH (h:p:=by
 have h8:=Am.aS (Am.qh (t:=8) ah ai ai rfl);have hg:kL.tmps.getD 76 undef=.bool true:=Am.aV (j:=7) ah ai rfl rfl;refine Am.bX Am.dm (Am.gV rfl rfl rfl hg rfl (Am.aU (v:=.pointer (some ⟨W.heap.size,2,none⟩)) ?_ (hK _ _ (T2.inv.keep (Am.dO.jh ko aj nS)) rfl)));generalize kL.eval=ev at*;simp [go_sem,execOp,hfn,hcs,h8]
 ):p:=h
theorem aiI (h:p:=by
 have h75:kL.tmps.getD 75 undef=.bool true:=Am.aV (j:=6) ah ai rfl rfl;replace h75:=Am.aS h75;refine Am.bX Am.dm (Am.aD rfl rfl (Am.aU (v:=.bool true) ?_ (hK _ _ (T2.inv.keep (Am.dO.jh ko aj nS)) rfl)));generalize kL.eval=ev at*;simp [go_sem,execOp,hfn,hcs,h75]
 ):p:=h
theorem Gv (h:p:=by
 cases ho;have ko:xO.getD 14 false=false:=T2.behind 14 ai;have nS:=T2.inv.2.pre ko;have Cj:=(nS.cell (p:=⟨DB,0,none⟩) e2l).trans e2c;have l7:=(nS.cell (p:=⟨W.heap.size,2,none⟩) n3l).trans n3c;have kf:=(nS.cell (p:=⟨bk,ok+1,none⟩) k3l).trans k3c
 first
 |(have:=aaz;exact aiB)
 |(have:=aaA;exact aiC)
 |(have:=Z5;exact aiD)
 |(have:=Z6;exact aiE)
 |(have:=Z7;exact aiF)
 |(have:=Z8;exact aiG)
 |(have:=Z9;exact aiH)
 |(have:=aaa;exact aiI)
 ):p:=h
theorem aiJ (h:p:=by
 go_wp2_with (first
  |(go_at_call 140;((with_reducible refine(wh.out _ Ed).mono ?_));rintro e w' ⟨rfl,hb⟩;obtain⟨g2,rfl⟩:=aC hb;clear hb)
  )
 exact Kl
 ):p:=h
theorem aiK (h:p:=by
 go_wp2_with (first
  |(go_at_call 140;((with_reducible refine(wh.out _ Ed).mono ?_));rintro e w' ⟨rfl,hb⟩;obtain⟨g2,rfl⟩:=aC hb;clear hb)
  |(go_at_call 141;((with_reducible refine(RH.out _ Ed).mono ?_));rintro e w' ⟨rfl,hb⟩;obtain⟨g3,rfl⟩:=aC hb;clear hb)
  |(go_at_call 139;((with_reducible refine(jF _).mono ?_));rintro e w' ⟨rfl,hw⟩;rw [hw];clear hw w')
  )
 exact Kl
 ):p:=h
theorem aiL (h:p:=by
 go_wp2_with (first
  |(go_at_call 140;((with_reducible refine(wh.out _ Ed).mono ?_));rintro e w' ⟨rfl,hb⟩;obtain⟨g2,rfl⟩:=aC hb;clear hb)
  |(go_at_call 141;((with_reducible refine(RH.out _ Ed).mono ?_));rintro e w' ⟨rfl,hb⟩;obtain⟨g3,rfl⟩:=aC hb;clear hb)
  |(go_at_call 139;((with_reducible refine(eM _).mono ?_));rintro e w' ⟨rfl,hw⟩;rw [hw];clear hw w')
  |(go_at_call 142;((with_reducible refine(BN.out _ Ed).mono ?_));rintro e w' ⟨rfl,hb⟩;obtain⟨g4,rfl⟩:=aC hb;clear hb)
  )
 exact Kl
 ):p:=h
theorem ahk (h:p:=by
 have aaB:=trivial;exact alF
 ):p:=h
theorem aiM (h:p:=by
 have EE:row[k]?=some 0:=by
  rw [aiN.out,List.getElem?_append_right (by rw [Od.out];exact Nat.le_refl _),Od.out,show n - k=(n - (k+1))+1 by omega,List.replicate_succ];simp
 go_wp2;go_loopw [24] (fun i w2=>∃(j:Nat) (qu:List Int) (g2:gQ),j≤q∧i=.int .i64 j∧w2=grow (w.alloc (.cells (qu.map (Value.int .i64)).toArray 3)) g2∧
  Hid (∃m:Int,qu=ds++(m+1)::List.replicate (n - (k+1)) 0∧0≤m∧m≤k∧lH ds (kids.drop j) m=lH ds kids 0)) (fun i _=>q - (intOf i).toNat)
 case atStart=>
  refine⟨0,row.set k 1,_,by omega,rfl,by rw [List.map_set];exact zm _ _ _,0, ?_,by omega,by omega,rfl⟩;rw [aiN.out,List.set_append_right _ _ (by rw [Od.out];exact Nat.le_refl _),Od.out,show n - k=(n - (k+1))+1 by omega,List.replicate_succ];simp
 case round=>
  obtain⟨j,qu,g2,hj,rfl,rfl,hR⟩:=hrel;by_cases hjq:j<q
  ·have aaC:=trivial;exact ane
  ·obtain rfl:j=q:=by omega
   obtain⟨m,hrow2,O3,j8,EG⟩:=hR.out;have sN:=Od.out;have hr1:qu[k]?=some (m+1):=by rw [hrow2,List.getElem?_append_right af];simp [sN]
   have uw:=hid hrow2;have Hmk:=hid EG;have Kz:=hid sN;clear hrow2 EG sN hR;go_wp2;have sN:=Od.out;have tF:m=lH ds kids 0:=by
    have h:=Hmk.out;rw [Hq.out,List.drop_length] at h;exact h
   refine⟨⟨k+1,qu,g2,by omega,by go_num,rfl,ds++[m+1], ?_,by simp [sN],fun d hd=>?_, ?_⟩,by simp [intOf];omega⟩
   ·rw [uw.out];simp
   ·exact U7
   ·rw [tF,←Hdd.out,Hdp.out]
 ):p:=h
theorem aiO (h:p:=by
 go_wp2;go_loopw [22] (fun i w2=>∃(j:Nat) (qu:List Int) (g2:gQ),j≤q∧i=.int .i64 j∧w2=grow (w.alloc (.cells (qu.map (Value.int .i64)).toArray 3)) g2∧
  Hid (∃m:Int,qu=ds++m::List.replicate (n - k) 0∧0≤m∧m≤k∧lH ds (kids.drop j) m=lH ds kids 0)) (fun i _=>q - (intOf i).toNat)
 case atStart=>
  refine⟨0,row,_,by omega,rfl,zm _ _ _,0, ?_,by omega,by omega,rfl⟩;rw [aiN.out,show n+1 - k=(n - k)+1 by omega,List.replicate_succ]
 case round=>
  obtain⟨j,qu,g2,hj,rfl,rfl,hR⟩:=hrel;by_cases hjq:j<q
  ·have aaD:=trivial;exact ane
  ·obtain rfl:j=q:=by omega
   obtain⟨m,hrow2,O3,j8,EG⟩:=hR.out;have sN:=Od.out;have hr1:qu[k]?=some m:=by rw [hrow2,List.getElem?_append_right af];simp [sN]
   have uw:=hid hrow2;have Hmk:=hid EG;have Kz:=hid sN;clear hrow2 EG sN hR;go_wp2;have sN:=Od.out;have tF:m=lH ds kids 0:=by
    have h:=Hmk.out;rw [Hq.out,List.drop_length] at h;exact h
   refine⟨⟨k+1,qu.set k (m+1),g2,by omega,by go_num,by rw [List.map_set],ds++[m+1], ?_,by simp [sN],fun d hd=>?_, ?_⟩,by simp [intOf];omega⟩
   ·rw [uw.out,List.set_append_right _ _ af,sN,show n+1 - (k+1)=n - k by omega];simp
   ·exact U7
   ·rw [tF,←Hdd.out,Hdp.out]
 ):p:=h
theorem amd (h:p:=by
 have h0:=Ha.out.2.2;rcases h0 with h0|⟨b,o,hp,hb,hc⟩
 ·subst h0;have:=Hn.out;simp at this;omega
 subst hp;have hkx:k<xs.length:=by have:=Hn.out;omega
 replace hc:=hc k hkx;have hf:=Ha.out.2.1 xs[k] (List.getElem_mem hkx);have hsm:=Hs.out.2 xs[k] (List.getElem_mem hkx);have hdd:=GG xs k hkx;generalize xs[k]=x at*;obtain⟨kind,text,kp,aP,kids,place⟩:=x;simp only at hc hdd hsm;have c0:=hc.1;have c1:=hc.2.1;have c2:=hc.2.2.1;have c3:=hc.2.2.2;have C7:(0:Int)≤(k:Int):=af;have r7:(k:Int)<(n:Int):=af;have hk2:(k:Int)<(n:Int)+1:=af;have Xi:=hf.2.2.2.2.2;obtain⟨ds,hrow,sN,hdb,Lu⟩:=hR.out;have oK:=hsm.1;obtain⟨q,hq⟩:∃q,q=kids.length:=⟨_,rfl⟩;rw [←hq] at c2;have BH:(q:Int)≤20000:=af;have Hq:=hid hq;have Hx:=hid Xi;have Hdd:=hid hdd;have aiN:=hid hrow;have Od:=hid sN;have Hdb:=hid hdb;have Hdp:=hid Lu;clear hc hf hsm hR hdd Xi hrow sN hdb Lu oK hq
 first
 |(have:=aaE;exact aiM)
 |(have:=ZA;exact aiO)
 ):p:=h
theorem aaF (h:p:=by
 have Hk:=hid (fun w=>agA kk Zc w);have Hm:=hid hm;have HT:Hid (∀W2,Below W1.heap.size W1 W2→Calls Tryz.prog 34 #[.slice p ns.length c,.agg #[.slice q0 n0 d0,.slice q1 n1 d1,.slice q2 n2 d2,.slice q3 n3 d3],.int .i64 m,.bool yes] W2 (fM W2 (aW ns s.vars s.uses ns.length m yes))):=
  hid (fun W2 hb=>L4 p c ns ht (fun m hm=>Nat.le_trans (LN he m hm) HS.out.1) _ _ _ _ s mG W1 Ha.out Hs.out ns.length m hm hm yes W2 hb)
 subst hpe;clear hx hx1 anf hx2 hv cD r7 AQ hxn ct aG mG ht he HR Hfo hm ha;have Hn1:=hid BJ;clear BJ;cases hq:ld kk with
 |true=>
  have hr:R=aW ns s.vars s.uses ns.length m yes:=by rw [HRt.out,hq];rfl
  rw [hq] at Hk;clear HRt hq;subst hr;go_enter Tryz.func13,Tryz.ntmps13;go_wp2_with (first
   |(go_at_call 32;rw [←hW1];with_reducible refine Hp.out.mono ?_;rintro e w9 ⟨rfl,gA⟩;have mM:=hid gA;obtain⟨R0,R1,R2,R3⟩:=q8 Ll.out gA;have hlt:W.heap.size<w9.heap.size:=Ms;have c9:=(gA.cell (p:=⟨b,o+m*4,none⟩) bO).trans c0;have aiP:b<w9.heap.size:=Nat.lt_of_lt_of_le bO gA.size;clear gA hW1)
   |(go_at_call 33;with_reducible refine(Hk.out _).mono ?_;rintro e O5 ⟨rfl,zO⟩;obtain⟨g,rfl⟩:=aC zO;clear zO)
   |(go_at_call 34;have yX:=HT.out _ (mM.out.trans ((below_grow w9 g).mono mM.out.size));(with_reducible refine yX.mono ?_);clear yX;rintro e w11 ⟨v11,rfl,amY,hrow⟩))
  exact Uo
 |false=>
  have hr:R=[]:=by rw [HRt.out,hq];rfl
  rw [hq] at Hk;clear HRt hq;subst hr;go_enter Tryz.func13,Tryz.ntmps13;go_wp2_with (first
   |(go_at_call 32;rw [←hW1];with_reducible refine Hp.out.mono ?_;rintro e w9 ⟨rfl,gA⟩;have mM:=hid gA;obtain⟨R0,R1,R2,R3⟩:=q8 Ll.out gA;have hlt:W.heap.size<w9.heap.size:=Ms;have c9:=(gA.cell (p:=⟨b,o+m*4,none⟩) bO).trans c0;have aiP:b<w9.heap.size:=Nat.lt_of_lt_of_le bO gA.size;clear gA hW1)
   |(go_at_call 33;with_reducible refine(Hk.out _).mono ?_;rintro e O5 ⟨rfl,zO⟩;obtain⟨g,rfl⟩:=aC zO;clear zO))
  exact UA
 ):p:=h
theorem aaG (h:p:=by
 have Hk:=hid (fun w=>agB kk Zc w);have Hm:=hid hm;have HT:Hid (∀W2,Below W1.heap.size W1 W2→Calls Tryz.prog 31 #[.slice p ns.length c,.agg #[.slice q0 n0 d0,.slice q1 n1 d1,.slice q2 n2 d2,.slice q3 n3 d3],.int .i64 m,.bool yes] W2 (fM W2 (aW ns s.vars s.uses ns.length m yes))):=
  hid (fun W2 hb=>aaH W2 p c ns HS.out ht (fun m hm=>LN he m hm) (aF hb Ha.out) _ _ _ _ s (Hs.out.later hb) mG m hm yes)
 subst hpe;clear hx hx1 anf hx2 hv cD r7 AQ hxn ct aG mG ht he HR Hfo hm ha;have Hn1:=hid BJ;clear BJ;cases hq:ld kk with
 |true=>
  have hr:R=aW ns s.vars s.uses ns.length m yes:=by rw [HRt.out,hq];rfl
  rw [hq] at Hk;clear HRt hq;subst hr;go_enter Tryz.func12,Tryz.ntmps12;go_wp2_with (first
   |(go_at_call 29;rw [←hW1];with_reducible refine Hp.out.mono ?_;rintro e w9 ⟨rfl,gA⟩;have mM:=hid gA;obtain⟨R0,R1,R2,R3⟩:=q8 Ll.out gA;have hlt:W.heap.size<w9.heap.size:=Ms;have c9:=(gA.cell (p:=⟨b,o+m*4,none⟩) bO).trans c0;have aiP:b<w9.heap.size:=Nat.lt_of_lt_of_le bO gA.size;clear gA hW1)
   |(go_at_call 30;with_reducible refine(Hk.out _).mono ?_;rintro e O5 ⟨rfl,zO⟩;obtain⟨g,rfl⟩:=aC zO;clear zO)
   |(go_at_call 31;have yX:=HT.out _ (mM.out.trans ((below_grow w9 g).mono mM.out.size));(with_reducible refine yX.mono ?_);clear yX;rintro e w11 ⟨v11,rfl,amY,hrow⟩))
  exact Uo
 |false=>
  have hr:R=[]:=by rw [HRt.out,hq];rfl
  rw [hq] at Hk;clear HRt hq;subst hr;go_enter Tryz.func12,Tryz.ntmps12;go_wp2_with (first
   |(go_at_call 29;rw [←hW1];with_reducible refine Hp.out.mono ?_;rintro e w9 ⟨rfl,gA⟩;have mM:=hid gA;obtain⟨R0,R1,R2,R3⟩:=q8 Ll.out gA;have hlt:W.heap.size<w9.heap.size:=Ms;have c9:=(gA.cell (p:=⟨b,o+m*4,none⟩) bO).trans c0;have aiP:b<w9.heap.size:=Nat.lt_of_lt_of_le bO gA.size;clear gA hW1)
   |(go_at_call 30;with_reducible refine(Hk.out _).mono ?_;rintro e O5 ⟨rfl,zO⟩;obtain⟨g,rfl⟩:=aC zO;clear zO))
  exact UA
 ):p:=h
theorem afG (h:p:=by
 obtain⟨rfl,xR,BJ⟩:=vg;obtain⟨m,rfl⟩:∃m:Nat,n=m:=⟨n.toNat,by omega⟩;have hm:m<ns.length:=af;obtain⟨he,mG⟩:=Hfo.out rfl;have ht:=ow he;have Ht:=hid ht;have He:=hid he;have ayJ:=hid mG;obtain⟨x,hx,hx1,hx2,hv⟩:=ic ht hm;have r7:=hv.k1;have AQ:=hv.Q4;have hxn:ns[m]=x:=by rw [List.getElem?_eq_getElem hm] at hx;exact Option.some.inj hx
 obtain⟨b,o,hpe,bO,ct,aG,c0,ang⟩:=bh Ha.out hm;clear ang;rw [hxn] at c0;have anf:=hx1;obtain⟨kk,cD⟩:∃kk:Nat,x.kind=kk:=⟨x.kind.toNat,by omega⟩;rw [cD] at c0 hx1 AQ;have Zc:kk<37:=af;have ayK:(m:Int)<(ns.length:Int):=BJ;have HRt:Hid (R=if ld kk=true then aW ns s.vars s.uses ns.length m yes else []):=hid (by rw [HR.out,hx1,Int.toNat_natCast];by_cases hq:ld kk=true<;>simp [hq,hm])
 first
 |(have:=Vi;exact aaF)
 |(have:=Vj;exact aaG)
 ):p:=h
theorem aaI (h:p:=by
 exact oz
 ):p:=h
theorem aaJ (h:p:=by
 exact oA
 ):p:=h
theorem afH (h:p:=by
 have hb:bn s.toList=1:=oO;have e0:(s.toList==[119,114,105,116,101])=false:=oO;have e1:(s.toList==[107,101,121])=false:=oO;have e2:(s.toList==[114,101,115,117,109,101])=false:=oO;have e3:(s.toList==[114,101,97,100])=false:=oO;have e4:(s.toList==[112,99,97,108,108])=false:=oO;have e5:(s.toList==[101,114,114,111,114])=false:=oO;have e6:(s.toList==[116,121,112,101])=false:=oO;have e7:(s.toList==[99,114,101,97,116,101])=false:=oO;have e8:(s.toList==[121,105,101,108,100])=true:=oO;have e9:(s.toList==[115,116,97,116,117,115])=false:=oO;rw [hb];clear h0 h1 h2 h3 h4 h5 h6 h7 h8 hb
 first
 |(have:=Vk;exact aaI)
 |(have:=Vl;exact aaJ)
 ):p:=h
theorem aaK (h:p:=by
 exact oz
 ):p:=h
theorem aaL (h:p:=by
 exact oA
 ):p:=h
theorem afI (h:p:=by
 have hb:bn s.toList=1:=oP;have e0:(s.toList==[119,114,105,116,101])=false:=oP;have e1:(s.toList==[107,101,121])=false:=oP;have e2:(s.toList==[114,101,115,117,109,101])=false:=oP;have e3:(s.toList==[114,101,97,100])=false:=oP;have e4:(s.toList==[112,99,97,108,108])=false:=oP;have e5:(s.toList==[101,114,114,111,114])=false:=oP;have e6:(s.toList==[116,121,112,101])=false:=oP;have e7:(s.toList==[99,114,101,97,116,101])=true:=oP;have e8:(s.toList==[121,105,101,108,100])=false:=oP;have e9:(s.toList==[115,116,97,116,117,115])=false:=oP;rw [hb];clear h0 h1 h2 h3 h4 h5 h6 h7 hb
 first
 |(have:=Vm;exact aaK)
 |(have:=Vn;exact aaL)
 ):p:=h
theorem aaM (h:p:=by
 exact oz
 ):p:=h
theorem aaN (h:p:=by
 exact oA
 ):p:=h
theorem afJ (h:p:=by
 have hb:bn s.toList=1:=oQ;have e0:(s.toList==[119,114,105,116,101])=false:=oQ;have e1:(s.toList==[107,101,121])=false:=oQ;have e2:(s.toList==[114,101,115,117,109,101])=false:=oQ;have e3:(s.toList==[114,101,97,100])=false:=oQ;have e4:(s.toList==[112,99,97,108,108])=false:=oQ;have e5:(s.toList==[101,114,114,111,114])=false:=oQ;have e6:(s.toList==[116,121,112,101])=true:=oQ;have e7:(s.toList==[99,114,101,97,116,101])=false:=oQ;have e8:(s.toList==[121,105,101,108,100])=false:=oQ;have e9:(s.toList==[115,116,97,116,117,115])=false:=oQ;rw [hb];clear h0 h1 h2 h3 h4 h5 h6 hb
 first
 |(have:=Vo;exact aaM)
 |(have:=Vp;exact aaN)
 ):p:=h
theorem aaO (h:p:=by
 exact oz
 ):p:=h
theorem aaP (h:p:=by
 exact oA
 ):p:=h
theorem afK (h:p:=by
 have hb:bn s.toList=1:=nj;have e0:(s.toList==[119,114,105,116,101])=false:=nj;have e1:(s.toList==[107,101,121])=false:=nj;have e2:(s.toList==[114,101,115,117,109,101])=false:=nj;have e3:(s.toList==[114,101,97,100])=false:=nj;have e4:(s.toList==[112,99,97,108,108])=false:=nj;have e5:(s.toList==[101,114,114,111,114])=true:=nj;have e6:(s.toList==[116,121,112,101])=false:=nj;have e7:(s.toList==[99,114,101,97,116,101])=false:=nj;have e8:(s.toList==[121,105,101,108,100])=false:=nj;have e9:(s.toList==[115,116,97,116,117,115])=false:=nj;rw [hb];clear h0 h1 h2 h3 h4 h5 hb
 first
 |(have:=Vq;exact aaO)
 |(have:=Vs;exact aaP)
 ):p:=h
theorem aaQ (h:p:=by
 exact oz
 ):p:=h
theorem aaR (h:p:=by
 exact oA
 ):p:=h
theorem afL (h:p:=by
 have hb:bn s.toList=1:=oU;have e0:(s.toList==[119,114,105,116,101])=false:=oU;have e1:(s.toList==[107,101,121])=false:=oU;have e2:(s.toList==[114,101,115,117,109,101])=false:=oU;have e3:(s.toList==[114,101,97,100])=false:=oU;have e4:(s.toList==[112,99,97,108,108])=true:=oU;have e5:(s.toList==[101,114,114,111,114])=false:=oU;have e6:(s.toList==[116,121,112,101])=false:=oU;have e7:(s.toList==[99,114,101,97,116,101])=false:=oU;have e8:(s.toList==[121,105,101,108,100])=false:=oU;have e9:(s.toList==[115,116,97,116,117,115])=false:=oU;rw [hb];clear h0 h1 h2 h3 h4 hb
 first
 |(have:=Vt;exact aaQ)
 |(have:=Vu;exact aaR)
 ):p:=h
theorem aaS (h:p:=by
 exact oz
 ):p:=h
theorem aaT (h:p:=by
 exact oA
 ):p:=h
theorem afM (h:p:=by
 have hb:bn s.toList=1:=oV;have e0:(s.toList==[119,114,105,116,101])=false:=oV;have e1:(s.toList==[107,101,121])=false:=oV;have e2:(s.toList==[114,101,115,117,109,101])=false:=oV;have e3:(s.toList==[114,101,97,100])=true:=oV;have e4:(s.toList==[112,99,97,108,108])=false:=oV;have e5:(s.toList==[101,114,114,111,114])=false:=oV;have e6:(s.toList==[116,121,112,101])=false:=oV;have e7:(s.toList==[99,114,101,97,116,101])=false:=oV;have e8:(s.toList==[121,105,101,108,100])=false:=oV;have e9:(s.toList==[115,116,97,116,117,115])=false:=oV;rw [hb];clear h0 h1 h2 h3 hb
 first
 |(have:=Vv;exact aaS)
 |(have:=Vw;exact aaT)
 ):p:=h
theorem aaU (h:p:=by
 exact oz
 ):p:=h
theorem aaV (h:p:=by
 exact oA
 ):p:=h
theorem afN (h:p:=by
 have hb:bn s.toList=2:=nM;have e0:(s.toList==[119,114,105,116,101])=false:=nM;have e1:(s.toList==[107,101,121])=false:=nM;have e2:(s.toList==[114,101,115,117,109,101])=true:=nM;have e3:(s.toList==[114,101,97,100])=false:=nM;have e4:(s.toList==[112,99,97,108,108])=false:=nM;have e5:(s.toList==[101,114,114,111,114])=false:=nM;have e6:(s.toList==[116,121,112,101])=false:=nM;have e7:(s.toList==[99,114,101,97,116,101])=false:=nM;have e8:(s.toList==[121,105,101,108,100])=false:=nM;have e9:(s.toList==[115,116,97,116,117,115])=false:=nM;rw [hb];clear h0 h1 h2 hb
 first
 |(have:=Vx;exact aaU)
 |(have:=Vy;exact aaV)
 ):p:=h
theorem aaW (h:p:=by
 exact oz
 ):p:=h
theorem aaX (h:p:=by
 exact oA
 ):p:=h
theorem afO (h:p:=by
 have hb:bn s.toList=2:=mA;have e0:(s.toList==[119,114,105,116,101])=false:=mA;have e1:(s.toList==[107,101,121])=true:=mA;have e2:(s.toList==[114,101,115,117,109,101])=false:=mA;have e3:(s.toList==[114,101,97,100])=false:=mA;have e4:(s.toList==[112,99,97,108,108])=false:=mA;have e5:(s.toList==[101,114,114,111,114])=false:=mA;have e6:(s.toList==[116,121,112,101])=false:=mA;have e7:(s.toList==[99,114,101,97,116,101])=false:=mA;have e8:(s.toList==[121,105,101,108,100])=false:=mA;have e9:(s.toList==[115,116,97,116,117,115])=false:=mA;rw [hb];clear h0 h1 hb
 first
 |(have:=Vz;exact aaW)
 |(have:=VA;exact aaX)
 ):p:=h
theorem aaY (h:p:=by
 exact oz
 ):p:=h
theorem aaZ (h:p:=by
 exact oA
 ):p:=h
theorem afP (h:p:=by
 have hb:bn s.toList=2:=mB;have e0:(s.toList==[119,114,105,116,101])=true:=mB;have e1:(s.toList==[107,101,121])=false:=mB;have e2:(s.toList==[114,101,115,117,109,101])=false:=mB;have e3:(s.toList==[114,101,97,100])=false:=mB;have e4:(s.toList==[112,99,97,108,108])=false:=mB;have e5:(s.toList==[101,114,114,111,114])=false:=mB;have e6:(s.toList==[116,121,112,101])=false:=mB;have e7:(s.toList==[99,114,101,97,116,101])=false:=mB;have e8:(s.toList==[121,105,101,108,100])=false:=mB;have e9:(s.toList==[115,116,97,116,117,115])=false:=mB;rw [hb];clear h0 hb
 first
 |(have:=VB;exact aaY)
 |(have:=VC;exact aaZ)
 ):p:=h
theorem aa0 (h:p:=by
 exact UG
 ):p:=h
theorem aa1 (h:p:=by
 exact UH
 ):p:=h
theorem afQ (h:p:=by
 have hb:bn s.toList=1:=oW;have e0:(s.toList==[119,114,105,116,101])=false:=oW;have e1:(s.toList==[107,101,121])=false:=oW;have e2:(s.toList==[114,101,115,117,109,101])=false:=oW;have e3:(s.toList==[114,101,97,100])=false:=oW;have e4:(s.toList==[112,99,97,108,108])=false:=oW;have e5:(s.toList==[101,114,114,111,114])=false:=oW;have e6:(s.toList==[116,121,112,101])=false:=oW;have e7:(s.toList==[99,114,101,97,116,101])=false:=oW;have e8:(s.toList==[121,105,101,108,100])=false:=oW;have e9:(s.toList==[115,116,97,116,117,115])=true:=oW
 first
 |(have:=VD;exact aa0)
 |(have:=VE;exact aa1)
 ):p:=h
theorem aa2 (h:p:=by
 have hu:jb ⟨[],List.replicate ns.length (-1),[-1],[-1],[],[0],0,0⟩:=fun u hu=>by
  have:=List.eq_of_mem_replicate hu;subst this;exact⟨Int.le_refl _,by simp⟩
 exact⟨(eI ht ns.length z 0 false _ af af hinv).inv,Bt ht ns.length z 0 false _ af af hinv hu⟩
 ):p:=h
theorem aa3 (h:p:=by
 have hg:=eI ht ns.length z 0 false _ af af hinv;have hw:=LN he z af;have g1:=hg.v1;have g2:=hg.f1;simp only [List.length_nil,List.length_cons] at g1 g2;exact⟨by omega,by omega⟩
 ):p:=h
theorem acU (h:p:=by
 have ht:=ow he;have hL:=(taken he).2.1;have h1:=uz he;unfold cB;simp only;obtain⟨m,hm⟩:∃m,ns.length=m+1:=⟨ns.length - 1,by omega⟩;have e:((ns.length:Int) - 1)=(m:Int):=af;rw [e];rw [show ns.length - 1=m by omega] at h1;have hk:=bH ht (n:=(m:Int)) af;generalize ax ns (m:Int)=kids at*;have hl:kids.length - 1<kids.length:=af;have hq:=hk _ (List.getElem_mem hl);rw [aZ hl];obtain⟨z,hz⟩:∃z:Nat,kids[kids.length - 1]=(z:Int):=⟨(kids[kids.length - 1]).toNat,by omega⟩;rw [hz] at hq ⊢;have hinv:cN ns.length ⟨[],List.replicate ns.length (-1),[-1],[-1],[],[0],0,0⟩:=⟨by simp,by simp,by simp,by simp,by simp,by simp,by simp⟩
 first
 |(have:=PZ;exact aa2)
 |(have:=Qg;exact aa3)
 ):p:=h
theorem aa4 (h:p:=by
 rcases kq with _|_|_|_|_|_|kq
 ·exact D3
 ·exact D4
 ·cases ho;have aQ:=Am.lk 67 1 ah fun _=>rfl
  exact D8
 ·cases ho;have aQ:=Am.lk 68 2 ah fun _=>rfl
  exact Kq
 ·cases ho;have aQ:=Am.lk 69 3 ah fun _=>rfl
  exact D9
 ·cases ho;have aQ:=Am.lk 70 4 ah fun _=>rfl
  exact ae2
 ·simp at ho
 ):p:=h
theorem aa5 (h:p:=by
 rcases kq with _|_|_|_|_|_|kq
 ·exact D3
 ·exact D4
 ·cases ho;have aQ:=Am.lk 110 1 ah fun _=>rfl
  exact D8
 ·cases ho;have aQ:=Am.lk 111 2 ah fun _=>rfl
  exact Kq
 ·cases ho;have aQ:=Am.lk 112 3 ah fun _=>rfl
  exact D9
 ·cases ho;have aQ:=Am.lk 113 4 ah fun _=>rfl
  exact ae2
 ·simp at ho
 ):p:=h
theorem aa6 (h:p:=by
 rcases kq with _|_|_|_|_|_|kq
 ·exact D3
 ·exact D4
 ·cases ho;have aQ:=Am.lk 97 1 ah fun _=>rfl
  exact D8
 ·cases ho;have aQ:=Am.lk 98 2 ah fun _=>rfl
  refine Am.rv rfl rfl (hK _ _ (Below.refl _ _) rfl) ?_;generalize ca.eval=ev at*;simp [go_sem,execOp,hfn,hcs,aQ,mJ,D7]
 ·cases ho;have aQ:=Am.lk 99 3 ah fun _=>rfl
  exact D9
 ·cases ho;have aQ:=Am.lk 100 4 ah fun _=>rfl
  exact ae1
 ·simp at ho
 ):p:=h
theorem VF (h:p:=by
 intro kq o ca w1 ho hb ah K hK;have hcE:=(hb.cell (p:=⟨W.heap.size+1+1+1+1,0,none⟩) l9).trans e9;have hc8:=(hb.cell (p:=⟨W.heap.size+1+1+1,2,none⟩) l8).trans e8;have eA:=(hb.cell (p:=⟨lq,_,none⟩) lk).trans ek;have hBs:=hb.size;have hfn:∀f,ca.eval (.func f)=.func (.func f) #[] #[]:=fun _=>rfl
 have hcs:∀v,ca.eval (.const v)=v:=fun _=>rfl
 first
 |(have:=VG;exact aa4)
 |(have:=VH;exact aa5)
 |(have:=VI;exact aa6)
 ):p:=h
theorem aa7 (h:p:=by
 have e3b:(i:Int) - (A.size:Int)=((i - A.size - more:Nat):Int):=af;exact aen
 ):p:=h
theorem aa8 (h:p:=by
 exact aen
 ):p:=h
theorem afR (h:p:=by
 have w2:¬(i:Int)<(A.size:Int)+(more:Int):=af;have hAm:(A.size:Int)+(more:Int)≤20010:=af;have hbi:i - A.size - more<B.size:=by have:=aso.out;omega
 have hpl:i - A.size - more<B.data.toList.length:=by rw [HBl.out];exact hbi
 have hw:mW A.data.toList O.data.toList B.data.toList more i=B[i - A.size - more]:=by
  exact ah5
 have hl:(B[i - A.size - more]).toNat∈letters:=JS.out _ (.inr (.inr (by
  have:B[i - A.size - more]=B.data.toList[i - A.size - more]:=k6;rw [this];exact List.getElem_mem hpl)))
 rw [hw] at hd;have e3:(i:Int) - (A.size:Int) - (more:Int)=((i - A.size - more:Nat):Int):=af
 first
 |(have:=VJ;exact aa7)
 |(have:=VK;exact aa8)
 ):p:=h
theorem aa9 (h:p:=by
 have h82:kL.tmps.getD 82 undef=.bool true:=Am.aV (j:=13) ah ai rfl rfl;replace h82:=Am.aS h82;have hg:kL.tmps.getD 76 undef=.bool true:=Am.aV (j:=7) ah ai rfl rfl;refine Am.zl rfl rfl rfl hg rfl (Am.lF (f:=124) (args:=#[.int .i64 z1,.bool true,.pointer (some ⟨TB,0,none⟩),.pointer (some ⟨YB,0,none⟩),.pointer (some ⟨DB,0,none⟩)]) (w':=w4) ?_ ((aiQ.out w4 (TM.later nS) (HJ.out _ _ _ hj nS)).mono ?_))
 ·exact U8
 ·exact aeq
 ):p:=h
theorem aba (h:p:=by
 have h82:kL.tmps.getD 82 undef=.bool false:=Am.aV (j:=13) ah ai rfl rfl;replace h82:=Am.aS h82;have hg:kL.tmps.getD 76 undef=.bool true:=Am.aV (j:=7) ah ai rfl rfl;refine Am.zl rfl rfl rfl hg rfl (Am.lF (f:=124) (args:=#[.int .i64 z1,.bool false,.pointer (some ⟨TB,0,none⟩),.pointer (some ⟨YB,0,none⟩),.pointer (some ⟨DB,0,none⟩)]) (w':=w4) ?_ ((aiQ.out w4 (TM.later nS) (HJ.out _ _ _ hj nS)).mono ?_))
 ·exact U8
 ·exact aeq
 ):p:=h
theorem afS (h:p:=by
 cases ho;have ko:xO.getD 14 false=false:=T2.own;have nS:=T2.inv.2.pre ko;have Cj:=(nS.cell (p:=⟨DB,0,none⟩) e2l).trans e2c;have l7:=(nS.cell (p:=⟨W.heap.size,2,none⟩) n3l).trans n3c;have kf:=(nS.cell (p:=⟨bk,ok+1,none⟩) k3l).trans k3c;have h77:kL.tmps.getD 77 undef=.func (.func 124) #[] #[.pointer (some ⟨TB,0,none⟩),.pointer (some ⟨YB,0,none⟩),.pointer (some ⟨DB,0,none⟩)]:=Am.aV (j:=8) ah ai rfl rfl;replace h77:=Am.aS h77;have h81:kL.tmps.getD 81 undef=.int .i64 z1:=Am.aV (j:=12) ah ai rfl rfl;replace h81:=Am.aS h81
 first
 |(have:=VL;exact aa9)
 |(have:=VM;exact aba)
 ):p:=h
theorem abb (h:p:=by
 cases a4 with
 |true=>
  obtain rfl:R=-1:=by rw [hr];rfl
  exact T6
 |false=>
  obtain rfl:R=(vv:Int):=by rw [hr];rfl
  exact T6
 ):p:=h
theorem abc (h:p:=by
 cases a4 with
 |true=>
  obtain rfl:R=-1:=by rw [hr];rfl
  exact Ut
 |false=>
  obtain rfl:R=(vv:Int):=by rw [hr];rfl
  exact Ut
 ):p:=h
theorem afT (h:p:=by
 obtain⟨vv,rfl⟩:∃vv:Nat,u=vv:=⟨u.toNat,by omega⟩;have xA:vv<s.vars.length:=af;obtain⟨bv,ov,a1,a2,a3,a4,hT,hpv,hbv,d0,d1,d2,d3⟩:=pT H0.out xA;have CI:setAt s.vars (vv:Int)=a4:=by unfold setAt;rw [Int.toNat_natCast,List.getElem?_eq_getElem xA,hT]
 have hr:R=if a4=true then -1 else(vv:Int):=by rw [HR.out,if_neg aj,if_neg C3,CI]
 have u0:(0:Int)≤(vv:Int):=af;have u1:(vv:Int)<(s.vars.length:Int):=af;have tu:¬(vv:Int)<0:=af;subst hpv;clear HR hT CI H0 C3 anh xA
 first
 |(have:=VN;exact abb)
 |(have:=VO;exact abc)
 ):p:=h
theorem abd (h:p:=by
 obtain⟨W6,ZB⟩:∃W6,W6=grow W1 (GA.app GB):=⟨_,rfl⟩;rw [←ZB];have ah3:Hid (Below W1.heap.size W1 W6):=hid (by rw [ZB];repeat (first|exact Below.refl _ _|refine bN ?_ _|refine bD ?_|refine bG ?_ _|refine bI ?_ _ _|refine bA ?_ _));have IC:Hid (Below W.heap.size W W6):=hid (pn.out.trans (ah3.out.mono pn.out.size));have HT:Hid (∀w1,Below W6.heap.size W6 w1→Calls Tryz.prog 12 #[.slice p L cap,.agg #[.slice p0 n0 c0,.slice p1 n1 c1,.slice p2 n2 c2,.slice p3 n3 c3],.int .i64 n,.bool yes] w1 (fM w1 R)):=hid fun w1 hb=>HT0.out w1 (IC.out.trans (hb.mono IC.out.size))
 have HU:Hid (∀w1,Below W6.heap.size W6 w1→Calls Tryz.prog 13 #[.slice p L cap,.agg #[.slice p0 n0 c0,.slice p1 n1 c1,.slice p2 n2 c2,.slice p3 n3 c3],.int .i64 n,.bool yes] w1 (fM w1 R)):=hid fun w1 hb=>HU0.out w1 (IC.out.trans (hb.mono IC.out.size))
 clear ZB HT0 HU0 r0 r1 r2 r3 SN q0 q1 q2 q3;refine wp_region_any ai ?_;refine Am.bM (Φ:=Gc p L cap (.agg #[.slice p0 n0 c0,.slice p1 n1 c1,.slice p2 n2 c2,.slice p3 n3 c3]) n yes W6.heap.size R) (w0:=W6) ai ai wF ?_ ?_ _ ((Below.refl _ _).drew)
 ·intro kq o ca w1 ho hb ah K hK;have hfn:∀f,ca.eval (.func f)=.func (.func f) #[] #[]:=fun _=>rfl
  have hcs:∀v,ca.eval (.const v)=v:=fun _=>rfl
  rcases kq with _|_|_|_|_|_|_|_|_|_|_|_|kq
  ·exact oy
  ·exact TX
  ·exact r9
  ·exact sV
  ·cases ho;have aQ:=Am.lk 32 0 ah fun _=>rfl
   have nV:=Am.lk 33 1 ah fun _=>rfl
   have DN:=Am.lk 34 2 ah fun _=>rfl
   have Xm:=Am.lk 35 3 ah fun _=>rfl
   exact adR
  ·exact oy
  ·exact TX
  ·exact r9
  ·exact sV
  ·cases ho;have aQ:=Am.lk 37 5 ah fun _=>rfl
   have nV:=Am.lk 38 6 ah fun _=>rfl
   have DN:=Am.lk 39 7 ah fun _=>rfl
   have Xm:=Am.lk 40 8 ah fun _=>rfl
   exact adS
  ·cases ho;have hr1:fT W6.heap.size w1 (ca.tmps.getD 36 undef) R:=Am.aV (j:=4) ah ai rfl rfl;have hr2:fT W6.heap.size w1 (ca.tmps.getD 41 undef) R:=Am.aV (j:=9) ah ai rfl rfl;have e1:ca.eval (.tmp 36)=ca.tmps.getD 36 undef:=rfl;have e2:ca.eval (.tmp 41)=ca.tmps.getD 41 undef:=rfl;generalize ca.tmps.getD 36 undef=x1 at*;generalize ca.tmps.getD 41 undef=x2 at*;exact SM
  ·cases ho;have aQ:=Am.lk 42 10 ah fun _=>rfl
   exact Dc
  ·simp at ho
 ·intro ca w1 hb hd hs aT bp;have h8:ca.tmps.getD 8 undef=.bool true:=aT 11 _ 8 rfl rfl;have bf:=Am.bC hd hs bp;simp only [List.foldl_cons,List.foldl_nil,h8] at bf;obtain⟨yf,jL⟩:∃y:Nat→Value,∀t,ca.tmps.getD t undef=y t:=⟨_,fun _=>rfl⟩;simp only [jL] at bf;clear jL;subst bf;simp only [List.setIfInBounds_toArray,List.set_cons_succ,List.set_cons_zero];have pn:=hid hb;clear hb hd hs aT bp h8;go_wp2;go_ret;exact⟨rfl,IC.out.trans (pn.out.mono IC.out.size)⟩
 ):p:=h
theorem abe (h:p:=by
 go_ret;exact⟨rfl,pn.out.trans (Below.mono (by repeat (first|exact Below.refl _ _|refine bN ?_ _|refine bD ?_|refine bG ?_ _|refine bI ?_ _ _|refine bA ?_ _):Below W1.heap.size W1 _) pn.out.size)⟩
 ):p:=h
theorem adU (h:p:=by
 go_enter Tryz.func4,Tryz.ntmps4;go_wp2_with (first|(go_at_call 8;(try (rw [←hW1];clear hW1));refine(HA.out _ wG).mono ?_;rintro e w' ⟨rfl,hb⟩;obtain⟨GA,rfl⟩:=aC hb;clear hb)|(go_at_call 9;(try (rw [←hW1];clear hW1));refine(HF.out _ wG).mono ?_;rintro e w' ⟨rfl,hb⟩;obtain⟨GB,rfl⟩:=aC hb;clear hb))
 first
 |(have:=SP;exact abd)
 |(have:=TN;exact abe)
 ):p:=h
theorem abf (h:p:=by
 go_wp2;go_ret;exact⟨by rw [←Hr.out];rfl,Below.refl _ _⟩
 ):p:=h
theorem abg (h:p:=by
 by_cases r17:kx=17
 ·subst r17;exact afy
 ·have apM:=cW r17;by_cases r21:kx=21
  ·subst r21;exact afy
  ·have apN:=cW r21;have hd:=hid (decide_eq_false (show ¬(kx=17∨kx=21) by omega));clear r17 r21;go_wp2_with (go_at_call 139;((with_reducible refine(jF _).mono ?_));rintro e w' ⟨rfl,hw⟩;rw [hw];clear hw w');exact⟨rfl,by rw [←Hr.out,hd.out];rfl,dB⟩
 ):p:=h
theorem afU (h:p:=by
 unfold Bf at hr;rw [hka,if_neg hs] at hr;have h18:(x.kind==18)=false:=by cases e:(x.kind==18) with
  |false=>rfl
  |true=>exact absurd (.inl (eq_of_beq e)) hs
 have h19:(x.kind==19)=false:=by cases e:(x.kind==19) with
  |false=>rfl
  |true=>exact absurd (.inr (.inl (eq_of_beq e))) hs
 have h20:(x.kind==20)=false:=by cases e:(x.kind==20) with
  |false=>rfl
  |true=>exact absurd (.inr (.inr (eq_of_beq e))) hs
 have Hr:=hid hr;clear hR hr hka bW hvn hf hx hs;generalize x.kind=kx at*
 first
 |(have:=VP;exact abf)
 |(have:=VQ;exact abg)
 ):p:=h
theorem abh (h:p:=by
 rw [←hq] at c2 cO bz;have Hq:=hid hq;clear hq;go_enter Tryz.func66,Tryz.ntmps66;go_wp2;go_loopw [102] (fun iv wr=>∃(i:Nat) (g:gQ),iv=.int .i64 i∧i≤q∧wr=grow (w.alloc (.cells #[Value.int IntKind.i64 32,Value.string x.text,Value.slice x.kp q x.aP,Value.int IntKind.i64 x.place] 56)) g∧Hid (((x.kids.take i).map (bL ns)).Nodup)) (fun iv _=>q - (intOf iv).toNat)
 case atStart=>exact⟨0,_,rfl,by omega,(eZ _).symm,by simp [Hid]⟩
 case round=>
  obtain⟨i,g,rfl,hi,rfl,hR⟩:=hrel;by_cases hiq:i<q
  ·have ji:i<x.kids.length:=by have:=Hq.out;omega
   obtain⟨bk,ok,eO,bO,eA⟩:=bQ Hf.out ji;have fR:x.kids.getD i 0=x.kids[i]:=Fu;have dA:=ve.out x.kids[i] (List.getElem_mem ji);rw [fR] at eA;obtain⟨z,hz⟩:∃z:Nat,x.kids[i]=(z:Int):=⟨(x.kids[i]).toNat,by omega⟩;rw [hz] at dA eA;have hzl:z<ns.length:=af;obtain⟨b2,o2,Aj,hb2,hx2,hf2,d0,d1,d2,d3⟩:=bh Ha.out hzl;cases Aj;have hti:=jy hx2;have z0:(0:Int)≤(z:Int):=af;have z1:(z:Int)<(L:Int):=nw;have i0:(0:Int)≤(i:Int):=af;have i1:(i:Int)<(q:Int):=af;have i2:(i:Int)≤(x.aP:Int):=af;have gM:x.kids.take (i+1)=x.kids.take i++[(z:Int)]:=EP;have Hti:=hid hti;have lR:=hid gM;have XG:=hid eO;have Hbk:=hid bO;rw [eO] at c2 ⊢;clear hti gM eO fR hx2 hf2 hz ji d0 d2 d3;generalize ns[z].text=s1 at*;go_wp2;go_loopw [112] (fun jv wr=>∃(j:Nat) (g2:gQ),jv=.int .i64 j∧j≤i∧wr=grow (w.alloc (.cells #[Value.int IntKind.i64 32,Value.string x.text,Value.slice (some ⟨bk,ok,none⟩) q x.aP,Value.int IntKind.i64 x.place] 56)) g2∧Hid (∀j':Nat,j'<j→bL ns (x.kids.getD j' 0)≠s1.data.toList)) (fun jv _=>i - (intOf jv).toNat)
   case atStart=>exact⟨0,g,rfl,by omega,rfl,fun j' h=>by omega⟩
   case round=>
    obtain⟨j,g2,rfl,hj,rfl,hJ⟩:=hrel;by_cases RL:j<i
    ·have pE:j<x.kids.length:=by have:=Hq.out;omega
     obtain⟨bk',ok',F9,NI,hcj⟩:=bQ Hf.out pE;have fR:x.kids.getD j 0=x.kids[j]:=S4;have Ga:=ve.out x.kids[j] (List.getElem_mem pE);rw [XG.out] at F9;cases F9;rw [fR] at hcj;obtain⟨y,hy⟩:∃y:Nat,x.kids[j]=(y:Int):=⟨(x.kids[j]).toNat,by omega⟩;rw [hy] at Ga hcj;have DJ:y<ns.length:=af;obtain⟨b3,o3,Xl,hb3,hx3,hf3,f0,f1,f2,f3⟩:=bh Ha.out DJ;cases Xl;have htj:=jy hx3;have y0:(0:Int)≤(y:Int):=af;have y1:(y:Int)<(L:Int):=nw;have j0:(0:Int)≤(j:Int):=af;have j1:(j:Int)<(i:Int):=af;have Htj:=hid htj;have Hgj:=hid (fR.trans hy);clear htj fR hx3 hf3 hy f0 f2 f3 NI;generalize ns[y].text=s2 at*;cases he:(s1.toList==s2.toList) with
     |true=>
      have hno:¬((x.kids.map (bL ns)).Nodup):=fun h=>by
       have h2:(x.kids.map (bL ns))[i]?=(x.kids.map (bL ns))[j]?:=by
        have e1:x.kids[i]?=some (z:Int):=by
         have:=lR.out;have h3:=congrArg (fun l=>l[i]?) this;simp only [List.getElem?_take_of_lt (Nat.lt_succ_self i)] at h3;rw [h3,List.getElem?_append_right bt];simp [show min i x.kids.length=i by have:=Hq.out;omega]
        have e2:x.kids[j]?=some (y:Int):=by
         exact S5
        rw [List.getElem?_map,List.getElem?_map,e1,e2];simp only [Option.map_some];rw [Hti.out,Htj.out];congr 1;have:=eq_of_beq he
        rwa [ByteArray.toList_eq,ByteArray.toList_eq] at this
       have h4:=(List.getElem?_inj (by simp;have:=Hq.out;omega) h).1 h2;omega
      have HD:Hid (decide ((x.kids.map (bL ns)).Nodup)=false):=hid (decide_eq_false hno);clear hno;go_wp2;go_quiet (fail);exact Uq
     |false=>
      have Hne:Hid (∀j':Nat,j'<j+1→bL ns (x.kids.getD j' 0)≠s1.data.toList):=hid fun j' h=>by
       rcases Nat.lt_or_ge j' j with h2|h2
       ·exact hJ.out j' h2
       ·obtain rfl:j'=j:=by omega
        rw [Hgj.out,Htj.out];intro e;rw [ByteArray.toList_eq,ByteArray.toList_eq,e] at he;simp at he
      exact S7
    ·obtain rfl:j=i:=by omega
     have HN:Hid (((x.kids.take (j+1)).map (bL ns)).Nodup):=hid (by
      rw [lR.out,List.map_append,List.map_cons,List.map_nil,Hti.out,List.nodup_append];refine⟨hR.out,by simp,fun a ha b' hb' e=>?_⟩;simp at hb';subst hb';subst e;obtain⟨k,r7,hk2⟩:=List.mem_map.1 ha;obtain⟨j',hj',hk3⟩:=List.mem_iff_getElem.1 r7;rw [List.length_take] at hj';rw [List.getElem_take] at hk3;refine hJ.out j' af ?_;rw [List.getD,List.getElem?_eq_getElem af,hk3];exact hk2)
     exact S8
  ·obtain rfl:i=q:=by omega
   have hr:=hR.out;rw [List.take_of_length_le p9] at hr;have HD:Hid (decide ((x.kids.map (bL ns)).Nodup)=true):=hid (decide_eq_true hr);have j1:¬(i:Int)<(i:Int):=af;clear hR hr;exact Uq
 ):p:=h
theorem abi (h:p:=by
 rw [←hq] at c2 cO;have Hq:=hid hq;clear hq;go_enter Tryz.func66,Tryz.ntmps66;go_wp2;go_loop [29] (fun iv=>∃j:Nat,iv=.int .i64 j∧j≤q∧Hid ((x.kids.dropLast.drop j).all (dU ns)=x.kids.dropLast.all (dU ns))) (fun iv=>q - (intOf iv).toNat)
 case atStart=>exact⟨0,rfl,by omega,rfl⟩
 case round=>
  obtain⟨j,rfl,hj,hR⟩:=hrel;by_cases hjq:j<q
  ·have pE:j<x.kids.length:=by have:=Hq.out;omega
   obtain⟨bk,ok,eO,bO,eA⟩:=bQ Hf.out pE;have fR:x.kids.getD j 0=x.kids[j]:=S4;have dA:=ve.out x.kids[j] (List.getElem_mem pE);rw [fR] at eA;have j0:(0:Int)≤(j:Int):=af;have j1:(j:Int)<(q:Int):=af;by_cases K8:j+1<q
   ·have hd:=vV x.kids j p9;have hr:=hR.out;rw [hd,List.all_cons] at hr;obtain⟨z,hz⟩:∃z:Nat,x.kids[j]=(z:Int):=⟨(x.kids[j]).toNat,by omega⟩;rw [hz] at hr dA eA;have hzl:z<ns.length:=af;obtain⟨b2,o2,Aj,hb2,hx2,hf2,d0,d1,d2,d3⟩:=bh Ha.out hzl;cases Aj;have hka:=aL hx2;have hP:dU ns (z:Int)=decide (ns[z].kind≠10∧ns[z].kind≠11):=by unfold dU;rw [hka]
    rw [hP] at hr;have z0:(0:Int)≤(z:Int):=af;have z1:(z:Int)<(L:Int):=nw;have j2:(j:Int)<(q:Int) - 1:=af;have Hr:=hid hr;have JN:=hid eO;rw [eO] at c2;clear hR hr hd fR hx2 hf2 hka hP hz pE eO d1 d2 d3;generalize ns[z]=y at*;generalize y.kind=ky at*;by_cases SS:ky=10
    ·have HR:Hid (x.kids.dropLast.all (dU ns)=false):=hid (by rw [←Hr.out,SS];rfl);subst SS;exact Uu
    ·have arl:=cW SS;by_cases NQ:ky=11
     ·have HR:Hid (x.kids.dropLast.all (dU ns)=false):=hid (by rw [←Hr.out,NQ];rfl);subst NQ;exact Uu
     ·have arn:=cW NQ;have HR:Hid ((x.kids.dropLast.drop (j+1)).all (dU ns)=x.kids.dropLast.all (dU ns)):=hid (by
       rw [←Hr.out,decide_eq_true (⟨SS,NQ⟩:ky≠10∧ky≠11),Bool.true_and])
      clear Hr SS NQ;rw [JN.out];go_wp2;go_round
      case rel=>exact⟨j+1,by go_num,by omega,HR⟩
      case measure=>simp [intOf];omega
   ·have hd:=gz x.kids j p9;have xy:=gz x.kids (j+1) p9;have hr:=hR.out;rw [hd] at hr;have Hr:Hid ((x.kids.dropLast.drop (j+1)).all (dU ns)=x.kids.dropLast.all (dU ns)):=hid (by rw [xy];exact hr);have j2:¬(j:Int)<(q:Int) - 1:=af;have JN:=hid eO;rw [eO] at c2;generalize x.kids[j]=u at*;clear hR hr hd xy fR eO;rw [JN.out];go_wp2;go_round
    case rel=>exact⟨j+1,by go_num,by omega,Hr⟩
    case measure=>simp [intOf];omega
  ·obtain rfl:j=q:=by omega
   have hr:=hR.out;rw [gz x.kids j p9] at hr;have Hr:=hid (show x.kids.dropLast.all (dU ns)=true from hr.symm);have j1:¬(j:Int)<(j:Int):=af;clear hR hr;go_wp2;exact y9
 ):p:=h
theorem acO (h:p:=by
 obtain⟨b,o,hp,hb,hx,hf,c0,c1,c2,c3⟩:=bh ha hn;subst hp;have n0:(0:Int)≤(n:Int):=af;have n1:(n:Int)<(ns.length:Int):=af;have ve:=hid gy;have Hf:=hid hf;have Ha:=hid ha;have hns:ns.length≤5000:=af;obtain⟨L,CR⟩:∃L,L=ns.length:=⟨_,rfl⟩;rw [←CR] at hL n1 hns ⊢;rw [hk] at c0;have HL:=hid CR;clear hx hf gy ha hk CR;generalize ns[n]=x at*;obtain⟨q,hq⟩:∃q,q=x.kids.length:=⟨_,rfl⟩
 first
 |(have:=TC;exact abh)
 |(have:=PI;exact abi)
 ):p:=h
theorem abj (h:p:=by
 have mh:∀j,dD ops j i→listed.getD j false=false:=fun j h=>by
  exact UL
 have sJ:∀j,dD ops i j→listed.getD j false=true:=fun j h=>by
  exact Us
 have ah:kT ops Φ a0 o ca w:=fun t ht=>by
  refine⟨fun j p hp mS=>?_,fun hno=>bp t hno⟩;refine aT j p t hp mS ?_ (fun z hsj=>?_)
  rotate_left
  ·rcases KA (hsp z) hsj hp mS ho ht with h|h
   ·subst h;exact Zk
   ·cases hls:listed.getD z false with
    |false=>rfl
    |true=>have:=h.mem Ai hls;rw [Zk] at this;cases this
  exact TU
 refine hop i o ca w (fun i=>listed.getD i false) ho hb Zk (fun j hj=>mh j (gT ops ops [] (fun k o hk=>by simpa using hk) (fun j i h=>by simp at h) j i hj)) ah _ fun v w' hI' asq hv=>?_
 refine ih _ _ _ (by simpa using hsz) LI (by
  have e:(fun k=>(listed.setIfInBounds i true).getD k false)=fun j=>if j=i then true else listed.getD j false:=by
   funext k;exact UD
  rw [e];exact hI') ?_ ?_ ?_ ?_ ?_
 ·rw [←hd];cases o.dst<;>rfl
 ·rw [←hs];cases o.dst<;>simp [Act.put]
 ·exact aeG
 ·intro j p d hp mS hj asr;by_cases e1:j=i
  ·exact TT
  ·have hne:¬i=j:=fun h=>e1 h.symm
   have hj':listed.getD j false=true:=Mr;have hz:∀z,sp z j=true→z≠i∧listed.getD z false=false:=fun z h=>by
    have h1:=asr z h;by_cases e3:i=z
    ·subst e3;simp [hi'] at h1
    ·exact⟨fun e=>e3 e.symm,by simpa [Array.getElem?_setIfInBounds,e3] using h1⟩
   have h0:=aT j p d hp mS hj' fun z h=>(hz z h).2
   have hdd:o.dst≠some d:=fun Xr=>by
    exact Ks
   have:(ca.put o.dst v).tmps.getD d undef=ca.tmps.getD d undef:=by
    exact Km
   rw [this];refine A9 i j w w' _ (fun e=>e1 e.symm) ?_ asq h0;cases h:sp i j with
   |false=>rfl
   |true=>exact absurd rfl (hz i h).1
 ·exact aeZ
 ):p:=h
theorem abk (h:p:=by
 have mh:∀j,dD ops j i→listed.getD j false=false:=fun j h=>by
  exact UL
 have sJ:∀j,dD ops i j→listed.getD j false=true:=fun j h=>by
  exact Us
 have ah:kT ops Φ a0 o ca w:=fun t ht=>by
  refine⟨fun j p hp mS=>?_,fun hno=>bp t hno⟩;refine aT j p t hp mS ?_;exact TU
 have aab:∀k,(listed.setIfInBounds i true).getD k false=if k=i then true else listed.getD k false:=fun k=>by
  exact UD
 have ani:eX ops (fun j=>(listed.setIfInBounds i true).getD j false):=by
  exact aeG
 have EG:=fun j i h=>gT ops ops [] (fun k o hk=>by simpa using hk) (fun j i h=>by simp at h) j i h
 have afV:(listed.setIfInBounds i true).toList.count false≤fuel:=LI;refine hop i o ca w fuel listed ⟨ho,hb,Zk,fun j hj=>mh j (EG j i hj),fun j hj=>sJ j (EG i j hj),ah,by simpa using hsz,afV,ani,aab,hd,hs,aT,bp⟩ fun v w' hI' hv=>?_
 refine ih _ _ _ (by simpa using hsz) afV (by
  have e:(fun k=>(listed.setIfInBounds i true).getD k false)=fun j=>if j=i then true else listed.getD j false:=funext aab
  rw [e];exact hI') ?_ ?_ ani ?_ ?_
 ·rw [←hd];cases o.dst<;>rfl
 ·rw [←hs];cases o.dst<;>simp [Act.put]
 ·intro j p d hp mS hj;by_cases e1:j=i
  ·exact TT
  ·have hne:¬i=j:=fun h=>e1 h.symm
   have hj':listed.getD j false=true:=Mr;have h0:=aT j p d hp mS hj';have hdd:o.dst≠some d:=fun Xr=>by
    exact Ks
   have:(ca.put o.dst v).tmps.getD d undef=ca.tmps.getD d undef:=by
    exact Km
   rw [this];exact A9 j w w' _ h0
 ·exact aeZ
 ):p:=h
theorem abl (h:p:=by
 have mh:∀j,dD ops j i→listed.getD j false=false:=fun j h=>by
  exact afo
 have sJ:∀j,dD ops i j→listed.getD j false=true:=fun j h=>by
  exact afj
 have ah:kT ops Φ a0 o ca w:=fun t ht=>by
  refine⟨fun j p hp mS=>?_,fun hno=>bp t hno⟩;refine aT j p t hp mS ?_;exact ae8
 refine hop i o ca w ho hb ah _ fun v w' hb' hv=>?_
 refine ih _ _ _ (by simpa using hsz) LI (hb.trans (hb'.mono hb.size)) ?_ ?_ ?_ ?_ ?_
 ·rw [←hd];cases o.dst<;>rfl
 ·rw [←hs];cases o.dst<;>simp [Act.put]
 ·exact amS
 ·intro j p d hp mS hj;by_cases e1:j=i
  ·exact ae5
  ·have hne:¬i=j:=fun h=>e1 h.symm
   have hj':listed.getD j false=true:=Mr;have h0:=aT j p d hp mS hj';have hdd:o.dst≠some d:=fun Xr=>by
    exact afn
   have:(ca.put o.dst v).tmps.getD d undef=ca.tmps.getD d undef:=by
    exact afl
   rw [this];exact A9 j w w' _ hb' h0
 ·exact ae0
 ):p:=h
theorem SD (h:p:=by
 intro i hi;obtain⟨h4,o,Im,hall⟩:=mem_ready.1 hi;have ho:ops[i]?=some o:=by simpa using Im
 have hlt:i<ops.length:=(List.getElem?_eq_some_iff.1 ho).1;have hi':i<listed.size:=af;have Zk:listed.getD i false=false:=by simp [hi'] at h4 ⊢;exact h4
 first
 |(have:=VS;exact abj)
 |(have:=SC;exact abk)
 |(have:=TF;exact abl)
 ):p:=h
theorem abm (h:p:=by
 have hst:(ts.map (fun s:ByteArray=>s.data.toList)).take (k+1)=(ts.map (fun s:ByteArray=>s.data.toList)).take k++[(fun s:ByteArray=>s.data.toList) ts[k]]:=by
  rw [List.take_succ_eq_append_getElem (by simpa using oK)];simp
 clear h1 h2 hg;generalize ts[k]=s at*;obtain⟨t,ht⟩:∃t:ByteArray,t=s:=⟨_,rfl⟩;have VT:Hid (∀w,Calls Tryz.prog 188 #[.string s] w fun e w'=>e=.returned (.string t)∧w=w'):=hid (by rw [ht];exact abn s hcs);have htl:(fun s:ByteArray=>s.data.toList) s=t.data.toList:=by subst ht;rfl
 rw [htl] at hst;have hkey:keyOf Tryz.prog 9 (.string t)=some (.string t.data.toList):=keyOf_string_mk Tryz.underlying9 (by rw [ht];have:=hcs;unfold maxLen;omega);have Hst:=hid hst;have k0:(0:Int)≤(k:Int):=af;have k1:(k:Int)<(m:Int):=af;have kk0:(0:Int)≤(kk:Int):=af;have kk1:(kk:Int)<(n:Int):=af;clear hst htl ht hcs;go_wp2_with (first
  |(go_at_call 188;((with_reducible refine(VT.out _).mono ?_));rintro e w' ⟨rfl,rfl⟩)
  |(at_lookup;refine wpList_lookup_own_int _ rfl _ _ 119 rfl 9 3 .i64 AK Tryz.underlying119 Tryz.underlying3 (q9 _) w.heap.size k _ rfl hown _ _ rfl hkey ?_;intro c hat hwc)
  |(at_mapUpdate;refine wpList_mapUpdate_own _ rfl _ _ _ 119 rfl 9 3 AK Tryz.underlying119 _ w.heap.size k _ rfl hown lf _ _ _ rfl rfl hkey _ [] (plainElem_int Tryz.underlying3 (wrap64_wf _)) ?_))
 exact aeY
 ):p:=h
theorem abo (h:p:=by
 have hst:(ts.map (fun s:ByteArray=>s.data.toList.take 1)).take (k+1)=(ts.map (fun s:ByteArray=>s.data.toList.take 1)).take k++[(fun s:ByteArray=>s.data.toList.take 1) ts[k]]:=by
  rw [List.take_succ_eq_append_getElem (by simpa using oK)];simp
 clear h1 h2 hg;generalize ts[k]=s at*;obtain⟨t,ht⟩:∃t:ByteArray,t=(s.extract 0 1):=⟨_,rfl⟩;have VT:Hid (∀w,Calls Tryz.prog 189 #[.string s] w fun e w'=>e=.returned (.string t)∧w=w'):=hid (by rw [ht];exact abp s hcs);have htl:(fun s:ByteArray=>s.data.toList.take 1) s=t.data.toList:=by subst ht;simp [ByteArray.extract_mk,Array.toList_extract]
 rw [htl] at hst;have hkey:keyOf Tryz.prog 9 (.string t)=some (.string t.data.toList):=keyOf_string_mk Tryz.underlying9 (by rw [ht];rw [ByteArray.size_extract];have:=hcs.2;unfold maxLen;omega);have Hst:=hid hst;have k0:(0:Int)≤(k:Int):=af;have k1:(k:Int)<(m:Int):=af;have kk0:(0:Int)≤(kk:Int):=af;have kk1:(kk:Int)<(n:Int):=af;clear hst htl ht hcs;go_wp2_with (first
  |(go_at_call 189;((with_reducible refine(VT.out _).mono ?_));rintro e w' ⟨rfl,rfl⟩)
  |(at_lookup;refine wpList_lookup_own_int _ rfl _ _ 119 rfl 9 3 .i64 AK Tryz.underlying119 Tryz.underlying3 (q9 _) w.heap.size k _ rfl hown _ _ rfl hkey ?_;intro c hat hwc)
  |(at_mapUpdate;refine wpList_mapUpdate_own _ rfl _ _ _ 119 rfl 9 3 AK Tryz.underlying119 _ w.heap.size k _ rfl hown lf _ _ _ rfl rfl hkey _ [] (plainElem_int Tryz.underlying3 (wrap64_wf _)) ?_))
 exact aeY
 ):p:=h
theorem afW (h:p:=by
 have oK:k<ts.length:=by have:=ZH.out;omega
 have hg:ts[k]?=some ts[k]:=List.getElem?_eq_getElem oK;have hcs:=Hc.out ts[k] (List.getElem_mem oK);obtain⟨b,o,bq,oq,kk,rfl,rfl,hb,NU,cD,h1,h2⟩:=Hk.out k _ hg;have e1:wr.cell? ⟨bq,oq+k,none⟩=some (.int .i64 kk):=(ct.cell (p:=⟨bq,oq+k,none⟩) NU).trans h1;have e2:wr.cell? ⟨b,o+kk*4+1,none⟩=some (.string ts[k]):=(ct.cell (p:=⟨b,o+kk*4+1,none⟩) hb).trans h2
 first
 |(have:=VU;exact abm)
 |(have:=VV;exact abo)
 ):p:=h
theorem abq (h:p:=by
 cases hp:fW x with
 |false=>
  have Hp:Hid (dR s.data.toList=false):=hid (by rw [Hx.out,hp];rfl);go_wp2_with (go_at_call 177;((with_reducible refine(E4 x GH _).mono ?_));rintro e w' ⟨rfl,hb⟩;obtain⟨g3,rfl⟩:=aC hb;clear hb);exact UF
 |true=>
  have Hp:Hid (dR s.data.toList=(s.data.toList.drop (k+1)).all (fun b=>fW b.toNat)):=hid (by rw [Hx.out,hp];rfl);go_wp2_with (go_at_call 177;((with_reducible refine(E4 x GH _).mono ?_));rintro e w' ⟨rfl,hb⟩;obtain⟨g3,rfl⟩:=aC hb;clear hb);exact UK
 ):p:=h
theorem abr (h:p:=by
 cases hp:fW x with
 |false=>
  have Hp:Hid (dR s.data.toList=false):=hid (by rw [Hx.out,hp];rfl);go_wp2_with (go_at_call 130;((with_reducible refine(Bq x GH _).mono ?_));rintro e w' ⟨rfl,hb⟩;obtain⟨g3,rfl⟩:=aC hb;clear hb);exact UF
 |true=>
  have Hp:Hid (dR s.data.toList=(s.data.toList.drop (k+1)).all (fun b=>fW b.toNat)):=hid (by rw [Hx.out,hp];rfl);go_wp2_with (go_at_call 130;((with_reducible refine(Bq x GH _).mono ?_));rintro e w' ⟨rfl,hb⟩;obtain⟨g3,rfl⟩:=aC hb;clear hb);exact UK
 ):p:=h
theorem afX (h:p:=by
 have hpl:k<s.data.toList.length:=by rw [Hln.out];exact hlt
 have hx:=AA s.data.toList k hpl;rw [hR.out] at hx;have hbe:s.data.toList[k]=s[k]:=k6;rw [hbe] at hx;have GH:(s[k]).toNat<256:=(s[k]).toNat_lt;obtain⟨x,hxx⟩:∃x,(s[k]).toNat=x:=⟨_,rfl⟩;rw [hxx] at hx GH;have Hx:=hid hx;have k0:(0:Int)≤(k:Int):=af;have k1:(k:Int)<(s.size:Int):=af;clear hx hbe hR
 first
 |(have:=VW;exact abq)
 |(have:=VX;exact abr)
 ):p:=h
theorem abt (h:p:=by
 go_enter Tryz.func72,Tryz.ntmps72;by_cases hl:n=m
 ·subst hl;go_wp2;go_loopw [13] (fun iv wr=>∃(i:Nat) (r:Nat),i≤n∧iv=.int .i64 i∧wr=W.drewN r∧Hid (xs.take i=ys.take i)) (fun iv _=>n - (intOf iv).toNat)
  case atStart=>exact⟨0,0,Nat.zero_le _,rfl,rfl,hid rfl⟩
  case round=>
   obtain⟨i,r,hi,rfl,rfl,hI⟩:=hrel;by_cases AJ:i<n
   ·have EA:i<xs.length:=by have:=Hn.out;omega
    have Ji:i<ys.length:=Fa;have n0:(0:Int)≤(i:Int):=af;have n1:(i:Int)<(n:Int):=af;obtain⟨b,o,u1,u2,u3,u4,hT,rfl,hb,c0,c1,c2,c3⟩:=pT Hx.out EA;obtain⟨b',o',u1',u2',u3',u4',Jj,rfl,hb',c0',c1',c2',c3'⟩:=pT Hy.out Ji;have Bu:Hid (xs[i]≠ys[i]→jr xs ys=false):=hid fun h=>cj fun e=>h (by subst e;rfl)
    have HT:=hid hT;have HT':=hid Jj;have Hs:=hid (List.take_succ_eq_append_getElem EA);have Hs':=hid (List.take_succ_eq_append_getElem Ji);rw [hT] at Hs Bu;rw [Jj] at Hs' Bu;clear hT Jj HT HT';obtain⟨t,ht⟩:∃t,jr (Vr.mk u1 u2 u3 u4) (Vr.mk u1' u2' u3' u4')=t:=⟨_,rfl⟩;have hq:=acV u1 u2 u3 u4 u1' u2' u3' u4';rw [ht] at hq;cases t with
    |true=>
     exact P4
    |false=>
     have Hd:=hid (P1 ht);clear ht;exact UC
   ·obtain rfl:i=n:=by omega
    have he:Hid (xs=ys):=hid (by
     have h:=hI.out;rw [List.take_of_length_le (by have:=Hn.out;omega),List.take_of_length_le Fa] at h;exact h)
    go_wp2;go_ret;exact⟨by rw [jJ he.out];rfl,_,rfl⟩
 ·have hne:((n:Int) !=(m:Int))=true:=by simp;omega
  go_wp2;go_ret;exact⟨by rw [cj (fun e=>hl (by rw [Hn.out,Hm.out,e]))];rfl,0,rfl⟩
 ):p:=h
theorem abu (h:p:=by
 go_enter Tryz.func73,Tryz.ntmps73;by_cases hl:n=m
 ·subst hl;go_wp2;go_loopw [13] (fun iv wr=>∃(i:Nat) (r:Nat),i≤n∧iv=.int .i64 i∧wr=W.drewN r∧Hid (xs.take i=ys.take i)) (fun iv _=>n - (intOf iv).toNat)
  case atStart=>exact⟨0,0,Nat.zero_le _,rfl,rfl,hid rfl⟩
  case round=>
   obtain⟨i,r,hi,rfl,rfl,hI⟩:=hrel;by_cases AJ:i<n
   ·have EA:i<xs.length:=by have:=Hn.out;omega
    have Ji:i<ys.length:=Fa;have n0:(0:Int)≤(i:Int):=af;have n1:(i:Int)<(n:Int):=af;obtain⟨b,o,x,hT,rfl,hb,c0⟩:=fO Hx.out EA;obtain⟨b',o',x',Jj,rfl,hb',c0'⟩:=fO Hy.out Ji;have Bu:Hid (xs[i]≠ys[i]→jr xs ys=false):=hid fun h=>cj fun e=>h (by subst e;rfl)
    have HT:=hid hT;have HT':=hid Jj;have Hs:=hid (List.take_succ_eq_append_getElem EA);have Hs':=hid (List.take_succ_eq_append_getElem Ji);rw [hT] at Hs Bu;rw [Jj] at Hs' Bu;clear hT Jj HT HT';by_cases hs:x=x'
    ·exact aer
    ·have Hd:=hid hs;have f1:(x !=x')=true:=by simp [hs]
     clear hs;exact UC
 ):p:=h
theorem acW (h:p:=by
 have Hx:=hid hx;have Hy:=hid hy;clear hx hy;obtain⟨m,hm⟩:∃m,m=ys.length:=⟨_,rfl⟩;obtain⟨n,hn⟩:∃n,n=xs.length:=⟨_,rfl⟩;rw [←hn] at lx ⊢;rw [←hm] at ly ⊢;have Hn:=hid hn;have Hm:=hid hm;unfold maxLen at lx ly;have lx2:(n:Int)≤9223372036854775807:=af;have ly2:(m:Int)≤9223372036854775807:=af;clear hn hm lx ly
 first
 |(have:=P2;exact abt)
 |(have:=P3;exact abu)
 ):p:=h
theorem abv (h:p:=by
 refine Am.rC rfl rfl (hK _ _ (hI.keep aj aj aj (Below.refl _ _)) rfl) ?_;exact Vh
 ):p:=h
theorem abw (h:p:=by
 refine Am.rC rfl rfl (hK _ _ (hI.keep aj (Below.refl _ _)) rfl) ?_;exact Vh
 ):p:=h
theorem afY (h:p:=by
 cases ho;have aQ:=Am.lo 2 ah rfl;have hI:=T.inv;have aX:=hI.below;have zK:=(aX.cell (p:=⟨TB,0,none⟩) l0).trans t0;have l7:w1.cell? ⟨W.heap.size,2,none⟩=some (.slice (some ⟨bk,ok,none⟩) q xc):=iK;have kf:=(aX.cell (p:=⟨bk,ok,none⟩) mK).trans kz;have pg:=(aX.cell (p:=⟨bk,ok+1,none⟩) mK).trans ED
 first
 |(have:=VY;exact abv)
 |(have:=VZ;exact abw)
 ):p:=h
theorem abx (h:p:=by
 refine Am.rC rfl rfl (hK _ _ (hI.keep aj aj aj (Below.refl _ _)) rfl) ?_;exact wO
 ):p:=h
theorem aby (h:p:=by
 refine Am.rC rfl rfl (hK _ _ (hI.keep aj (Below.refl _ _)) rfl) ?_;exact wO
 ):p:=h
theorem afs (h:p:=by
 cases ho;have aQ:=Am.lo 8 ah rfl;have hI:=T.inv;have aX:=hI.below;have zK:=(aX.cell (p:=⟨TB,0,none⟩) l0).trans t0;have l7:w1.cell? ⟨W.heap.size,2,none⟩=some (.slice (some ⟨bk,ok,none⟩) q xc):=iK;have kf:=(aX.cell (p:=⟨bk,ok,none⟩) mK).trans kz;have pg:=(aX.cell (p:=⟨bk,ok+1,none⟩) mK).trans ED
 first
 |(have:=Vd;exact abx)
 |(have:=Ve;exact aby)
 ):p:=h
theorem abz (h:p:=by
 refine Am.rC rfl rfl (hK _ _ (hI.keep aj aj aj (Below.refl _ _)) rfl) ?_;exact Ml
 ):p:=h
theorem abA (h:p:=by
 refine Am.rC rfl rfl (hK _ _ (hI.keep aj (Below.refl _ _)) rfl) ?_;exact Ml
 ):p:=h
theorem afv (h:p:=by
 have hI:=T.inv;have aX:=hI.below;have zK:=(aX.cell (p:=⟨TB,0,none⟩) l0).trans t0;have l7:w1.cell? ⟨W.heap.size,2,none⟩=some (.slice (some ⟨bk,ok,none⟩) q xc):=iK;have kf:=(aX.cell (p:=⟨bk,ok,none⟩) mK).trans kz;have pg:=(aX.cell (p:=⟨bk,ok+1,none⟩) mK).trans ED
 first
 |(have:=Vf;exact abz)
 |(have:=Vg;exact abA)
 ):p:=h
theorem abB (h:p:=by
 have c0:W.cell? ⟨FB,0,none⟩=some (.slice (some ⟨b,o,none⟩) ns.length c):=iG;have n0:(0:Int)≤(n:Int):=af;have n1:(n:Int)<(ns.length:Int):=af;have sg:=hF.lt;have fR:=hF.ge;have Hk1:=hid Fi;have HF:=hid hF;have HBu:=hid (fun W'=>sS (ns[n]).text W');clear hF ct aG Fi aX;generalize ns[n]=x at*;by_cases N1:0≤bn x.text.toList
 ·have h1:=EX he (ns:=ns) (n:=(n:Int)) (fn:=(fn:Int)) (by rw [ke];exact N1);have hbd:decide (bn x.text.toList<0)=false:=decide_eq_false af;unfold BG;rw [h1.1,h1.2];have Hbd:=hid hbd;clear h1 hbd;go_enter Tryz.func220,Tryz.ntmps220;go_wp2_with (first
   |(go_at_call 181;refine(HBu.out _).mono ?_;rintro e w' ⟨rfl,hb⟩;obtain⟨g,rfl⟩:=aC hb;clear hb)
   |(go_at_call 216;(try simp only [Hbd.out]);(with_reducible refine(lp _ _ _ _).mono ?_);rintro e w' ⟨rfl,rfl⟩))
  exact⟨rfl,fun h=>absurd h aj,fun _=>⟨rfl,(aK.fresh (below_grow W g) af).weak⟩⟩
 ·have hbd:decide (bn x.text.toList<0)=true:=decide_eq_true af;have Hbd:=hid hbd;obtain⟨km,Dm,hDm,BI,hsm⟩:=HF.out.many.own;obtain⟨m,hm⟩:∃m,m=s.many.getD fn 0:=⟨_,rfl⟩;have od:fn<s.many.length:=by rw [hi.many];exact hfn
  have hmb:0≤m∧m≤s.vars.length:=by rw [hm,aZ od];exact hi.counts _ (List.getElem_mem od)
  have O3:=hmb.1;have j8:m≤100000:=af;have Hc1:Hid (∀c1:Int,Dm.atKey (.int .i64 (fn:Int)) (.lit (.int .i64 0))=.lit (.int .i64 c1)→m=c1):=hid (fun c1 h=>by rw [hsm fn,←hm] at h;injection h with h;injection h);have Hc2:Hid (∀c2:Int,(Dm.put (.int .i64 (fn:Int)) (.lit (.int .i64 (m+1)))).atKey (.int .i64 (fn:Int)) (.lit (.int .i64 0))=.lit (.int .i64 c2)→m+1=c2):=hid (fun c2 h=>by rw [atKey_put_same hDm.isMap (Lt _)] at h;injection h with h;injection h);have hw3:(Lit.int .i64 (m+1)).wf=true:=WalkArith.wf_i64 af;have c6:W.cell? ⟨FB,6,none⟩=some (.map (some mm)):=HF.out.cell 6;have hkey:keyOf Tryz.prog 3 (.int .i64 (fn:Int))=some (.int .i64 (fn:Int)):=keyOf_int_mk (P:=Tryz.prog) (k:=3) Tryz.underlying3 (WalkArith.wf_i64 af);have ayT:=HF.out.many.lt;have Hsm:=hid hsm;have Hm:=hid hm;have hec:(bY s (fn:Int)).many.getD fn 0=m+1:=by unfold bY;rw [Int.toNat_natCast,←hm];simp [List.getD,od]
  clear hsm hm;have asu:mm≠FB:=fun e=>by
   obtain⟨es,uZ,hh⟩:=HF.out.many.map;rw [e,HF.out.heap] at hh;cases hh
  have HcF:Hid (∀(g:gQ) (w2:World),(grow W g).grownBy w2 (some mm)→w2.heap[FB]?=W.heap[FB]?∧w2.cell? ⟨FB,6,none⟩=some (.map (some mm))):=hid (fun g w2 hg=>by
   have e:w2.heap[FB]?=W.heap[FB]?:=(hg.block FB bt (by simpa using fun e=>asu e.symm)).trans (dK W g FB sg);refine⟨e, ?_⟩;rw [←c6];simp only [World.cell?,e])
  by_cases Kc:200<m+1
  ·have h1:=PD he (ns:=ns) (n:=(n:Int)) (fn:=(fn:Int)) (by rw [ke];exact N1) (by rw [Int.toNat_natCast,hec];exact Kc);unfold BG;rw [h1.1,h1.2];clear h1 hec;have xy:decide (m+1≤200)=false:=decide_eq_false af;have Hd2:=hid xy;clear xy;go_enter Tryz.func220,Tryz.ntmps220;go_wp2_with (first
   |(go_at_call 181;refine(HBu.out _).mono ?_;rintro e w' ⟨rfl,hb⟩;obtain⟨g,rfl⟩:=aC hb;clear hb)
   |(go_at_call 216;(try simp only [Hbd.out]);(with_reducible refine(jK _ _ 110 _).mono ?_);rintro e w' ⟨rfl,rfl⟩)
   |(at_lookup;refine wpList_lookup_own_int _ rfl _ _ 186 rfl 3 3 .i64 BF Tryz.underlying186 Tryz.underlying3 (q9 _) mm km Dm rfl (hDm.kept (bK (below_grow W g)) ak) _ _ rfl hkey ?_;intro c1 hat hwc;have hc1:=Hc1.out c1 hat;subst hc1;clear hat hwc)
   |(at_mapUpdate;refine wpList_mapUpdate_own _ rfl _ _ _ 186 rfl 3 3 BF Tryz.underlying186 _ mm km Dm rfl (hDm.kept (bK (below_grow W g)) ak) lf _ _ _ rfl rfl hkey _ [] (plainElem_int Tryz.underlying3 hw3) ?_;intro w2 hM2 hg2;have h62:=(HcF.out g w2 hg2).2;have Hg2:=hid hg2;have HM2:=hid hM2;clear hg2)
   |(at_lookup;refine wpList_lookup_own_int _ rfl _ _ 186 rfl 3 3 .i64 BF Tryz.underlying186 Tryz.underlying3 (q9 _) mm (km+1) _ rfl hM2 _ _ rfl hkey ?_;intro c2 hat hwc;have hc2:=Hc2.out c2 hat;subst hc2;clear hat hwc)
   |(go_at_call 216;(try simp only [Hd2.out]);(with_reducible refine(lp _ _ 2 _).mono ?_);rintro e w' ⟨rfl,rfl⟩))
   exact⟨rfl,fun h=>absurd h aj,fun _=>⟨rfl,((aK.fresh (below_grow W g) af).trans (aK.grown (O':=aJ FB mm aB v0 v1 v2 v3 v4) Hg2.out bt (fun k e=>by cases e;exact⟨HF.out.ju,.inr (.inl rfl)⟩) (fun _ h=>.inl h))).weak⟩⟩
  ·have Gt:=PE (s:=s) (ns:=ns) (n:=(n:Int)) (fn:=(fn:Int)) (by rw [ke];exact N1) (by rw [Int.toNat_natCast,hec];exact Kc);have xy:decide (m+1≤200)=true:=decide_eq_true af;have Hd2:=hid xy;have X2:=hid Gt;clear xy hec Gt;go_enter Tryz.func220,Tryz.ntmps220;go_wp2_with (first
   |(go_at_call 181;refine(HBu.out _).mono ?_;rintro e w' ⟨rfl,hb⟩;obtain⟨g,rfl⟩:=aC hb;clear hb)
   |(go_at_call 216;(try simp only [Hbd.out]);(with_reducible refine(jK _ _ 110 _).mono ?_);rintro e w' ⟨rfl,rfl⟩)
   |(at_lookup;refine wpList_lookup_own_int _ rfl _ _ 186 rfl 3 3 .i64 BF Tryz.underlying186 Tryz.underlying3 (q9 _) mm km Dm rfl (hDm.kept (bK (below_grow W g)) ak) _ _ rfl hkey ?_;intro c1 hat hwc;have hc1:=Hc1.out c1 hat;subst hc1;clear hat hwc)
   |(at_mapUpdate;refine wpList_mapUpdate_own _ rfl _ _ _ 186 rfl 3 3 BF Tryz.underlying186 _ mm km Dm rfl (hDm.kept (bK (below_grow W g)) ak) lf _ _ _ rfl rfl hkey _ [] (plainElem_int Tryz.underlying3 hw3) ?_;intro w2 hM2 hg2;have h62:=(HcF.out g w2 hg2).2;have Hg2:=hid hg2;have HM2:=hid hM2;clear hg2)
   |(at_lookup;refine wpList_lookup_own_int _ rfl _ _ 186 rfl 3 3 .i64 BF Tryz.underlying186 Tryz.underlying3 (q9 _) mm (km+1) _ rfl hM2 _ _ rfl hkey ?_;intro c2 hat hwc;have hc2:=Hc2.out c2 hat;subst hc2;clear hat hwc)
   |(go_at_call 216;(try simp only [Hd2.out]);(with_reducible refine(jK _ _ 2 _).mono ?_);rintro e w' ⟨rfl,rfl⟩))
   have hF2:=(HF.out.later (below_grow W g)).V0 Hg2.out (sD.put hDm BI od Hsm.out HM2.out);obtain⟨g1,cu,MP,hg1,cu1,fu1,Tu,Tv⟩:=ints_at (hF2.rows.rows 0 _ _ rfl rfl) (show n<s.uses.length by rw [hi.uses];exact hn);obtain⟨av,cv,hv0⟩:∃a k,v0=.slice a s.vars.length k:=by
    rcases HF.out.vars.2 with⟨e1,e2⟩|⟨g',cap,cur,e1,_⟩
    ·exact Fq
    ·exact⟨_,_,e1⟩
   have aiR:aK B W w' (aJ FB mm aB v0 v1 v2 v3 v4) (aJ FB mm aB v0 v1 v2 v3 v4):=(aK.fresh (below_grow W g) af).trans (aK.grown Hg2.out bt (fun k e=>by cases e;exact⟨HF.out.ju,.inr (.inl rfl)⟩) (fun _ h=>.inl h));have asv:=hid aiR;have qU:=(hb0.trans aiR.below).mono h0;have k1w:=(qU.cell (p:=⟨b,_,none⟩) bO).trans Hk1.out;have hs2:FB<w'.heap.size:=hF2.lt;have d0:w'.cell? ⟨FB,0,none⟩=some (.slice (some ⟨b,o,none⟩) ns.length c):=by rw [←hp];exact hF2.cell 0
   have d1:w'.cell? ⟨FB,1,none⟩=some (.slice av s.vars.length cv):=by rw [←hv0];exact hF2.cell 1
   have d2:w'.cell? ⟨FB,2,none⟩=some (.slice (some ⟨g1,0,none⟩) s.uses.length cu):=by rw [←MP];exact hF2.cell 2
   have hul:(n:Int)<(s.uses.length:Int):=by rw [hi.uses];exact n1
   have iZ:¬FB=g1:=fun e=>fF (hF2.rows.rows 0 _ _ rfl rfl) hF2.heap aj (by rw [MP,e];rfl)
   have ayV:¬g1=FB:=fun e=>iZ e.symm
   have hF3:=hF2.iR MP (show n<s.uses.length by rw [hi.uses];exact hn) (s.vars.length:Int);have HF2:=hid hF2;have HF3:=hid hF3;have Hv0:=hid hv0;have Hv1:=hid MP;have Hp:=hid hp;clear hF2 hF3 aiR qU hv0 MP hp;go_still_tail 13,ai;go_wp2;obtain⟨w4,hw4⟩:∃w4,w4=(w'.setCell ⟨g1,n,none⟩ (.int .i64 (s.vars.length:Int))).drew:=⟨_,rfl⟩;have hF4:=(HF2.out.iR Hv1.out (show n<s.uses.length by rw [hi.uses];exact hn) (s.vars.length:Int)).later (Below.refl _ _).drew;rw [←hw4] at hF4;have aiS:aK B W w4 (aJ FB mm aB v0 v1 v2 v3 v4) (aJ FB mm aB v0 v1 v2 v3 v4):=by
    rw [hw4];refine asv.out.trans ((aK.grown (O':=aJ FB mm aB v0 v1 v2 v3 v4) (dY _ g1 n _) af (fun k e=>?_) (fun _ h=>.inl h)).trans (aK.fresh (Below.refl _ _).drew bt));cases e;exact⟨hg1,by unfold aJ;rw [Hv1.out];simp [Value.ownBlock]⟩
   have anm:=(hb0.trans aiS.below).mono h0;have k1x:=(anm.cell (p:=⟨b,_,none⟩) bO).trans Hk1.out;have lV:aB.length=bl.length+1:=by have:=HF.out.len;simpa using this
   obtain⟨mb,hmb⟩:∃mb,aB[bl.length]?=some mb:=⟨aB[bl.length]'af,List.getElem?_eq_getElem _⟩;have Fj:=hF4.maps bl.length mb nm hmb ak;obtain⟨kb,Db,hDb,hkb,hsb⟩:=Fj.own;obtain⟨g4,c4,hv4,hg4,Nc,agG,agH⟩:=tN hF4.blocks (show bl.length<aB.length by omega) ak;rw [List.getElem?_map,hmb] at Nc;have hs4:FB<w4.heap.size:=hF4.lt;have m0:w4.cell? ⟨FB,0,none⟩=some (.slice (some ⟨b,o,none⟩) ns.length c):=by rw [←Hp.out];exact hF4.cell 0
   have m1:w4.cell? ⟨FB,1,none⟩=some (.slice av s.vars.length cv):=by rw [←Hv0.out];exact hF4.cell 1
   have m5:w4.cell? ⟨FB,5,none⟩=some (.slice (some ⟨g4,0,none⟩) (bl.length+1) c4):=by rw [←lV,←hv4];exact hF4.cell 5
   have ann:keyOf Tryz.prog 9 (.string x.text)=some (.string x.text.data.toList):=keyOf_string_mk Tryz.underlying9 vT;have asw:(bl.length:Int)≤100000:=af;have q0:((bl.length+1:Nat):Int) - 1=(bl.length:Int):=af;have q1:(0:Int)≤(bl.length:Int):=af;have q2:(bl.length:Int)<((bl.length+1:Nat):Int):=af;have hwv:(Lit.int .i64 (s.vars.length:Int)).wf=true:=WalkArith.wf_i64 af;have agJ:kb<maxLen:=by
    have h1:s.seen.length=((bl++[nm]).flatten.map (·.2)).length:=congrArg List.length fy.seen;have h2:=hi.few;simp at h1;unfold maxLen;omega
   have HF4:=hid hF4;have asx:=hid aiS;have HDb:=hid hDb;have Hsb:=hid hsb;have Hmb:=hid hmb;have avm:=hid lV;have Hw4:=hid hw4;obtain⟨BL,hBL⟩:∃BL,BL=bl.length:=⟨_,rfl⟩;rw [←hBL] at Nc m5 q0 q1 q2 asw;obtain⟨Q,hQ⟩:∃Q,Q=BL+1:=⟨_,rfl⟩;rw [←hQ] at m5 q0 q2;have hQ9:(Q:Int)≤100001:=af;have HQ:=hid hQ;have hwr:IntKind.i64.wrap (BL:Int)=(BL:Int):=nr af af;clear hQ;have HBL:=hid hBL;simp only [Option.map_some] at Nc;rw [←Hw4.out];clear hF4 aiS anm Fj hDb hsb hmb hw4 lV hBL;have asy:mb≠FB:=fun e=>by
    obtain⟨es,uZ,hh⟩:=HDb.out;rw [e,HF4.out.heap] at hh;cases hh.1
   have ano:Hid (∀w5:World,w4.drew.grownBy w5 (some mb)→w5.heap[FB]?=w4.heap[FB]?∧w5.cell? ⟨FB,1,none⟩=some (.slice av s.vars.length cv)∧FB<w5.heap.size):=hid (fun w5 hg=>by
    have e:w5.heap[FB]?=w4.heap[FB]?:=hg.block FB hs4 (by simpa using fun e=>asy e.symm);refine⟨e, ?_,Nat.lt_of_lt_of_le hs4 hg.size⟩;rw [←m1];simp only [World.cell?,e])
   have Hm1:=hid hv4;clear hv4;obtain⟨iV,hiV,zV0,zV1,zV2⟩:=info_parts Tryz.Vb;go_still_tail 26,ai;go_wp2_with (first
    |(at_mapUpdate;refine wpList_mapUpdate_own _ rfl _ _ _ 119 rfl 9 3 AK Tryz.underlying119 _ mb kb Db rfl HDb.out.drew agJ _ _ _ rfl rfl ann _ [] (plainElem_int Tryz.underlying3 hwv) ?_;intro w5 hM5 hg5;have EH:=(ano.out w5 hg5).2.1;have asz:=(ano.out w5 hg5).2.2;have HM5:=hid hM5;have Hg5:=hid hg5;clear hM5 hg5)
    |(at_builtin;go_loud (refine cT _ rfl _ _ 25 rfl B 114 iV _ 4 24 Tryz.underlying25 hiV zV0 zV1 zV2 rfl aj (.slice av s.vars.length cv) s.vars.length (cx s.vars) rfl ?yH ⟨w5.heap.size,0,none⟩ 1 1 aj [.int .i64 n,.int .i64 fn,.bool false,.bool false] rfl rfl ?BD Fx ?Yb ?su ?pZ ?p4)))
   case yH=>
    have hF5:=(HF4.out.later (Below.refl _ _).drew).Mt Hmb.out Hg5.out (fe.put HDb.out hkb Hsb.out HM5.out);have:=bR hF5.vars (au w5 (.cells #[.int .i64 n,.int .i64 fn,.bool false,.bool false] 114));rw [Hv0.out] at this;exact this
   case Yb=>unfold maxLen;omega
   case su=>omega
   case pZ=>exact Nat.le_trans (Nat.le_trans fR (Nat.le_of_lt asz)) (Nat.le_succ _)
   case p4=>
    intro v' W1 k1 k2 k3;have hF5:=(HF4.out.later (Below.refl _ _).drew).Mt Hmb.out Hg5.out (fe.put HDb.out hkb Hsb.out HM5.out);have IE:=au w5 (.cells #[.int .i64 n,.int .i64 fn,.bool false,.bool false] 114);have h7:=hF5.later IE;have F0:cx (s.vars++[⟨n,fn,false,false⟩])=cx s.vars++[.int .i64 n,.int .i64 fn,.bool false,.bool false]:=zI _ _;have Fi:W1.ownsRow B 114 4 v' (s.vars++[⟨n,fn,false,false⟩]:List Vr).length (cx (s.vars++[⟨n,fn,false,false⟩])):=by rw [F0,List.length_append];exact k1
    have L8:(w5.alloc (.cells #[.int .i64 n,.int .i64 fn,.bool false,.bool false] 114)).grownBy W1 v0.ownBlock:=by rw [Hv0.out];exact k2
    have h8:=h7.zJ L8 Fi;have Kw:W1.heap[FB]?=some (.cells #[.slice p ns.length c,v0,v1,v2,v3,v4,.map (some mm)] 189 (0,0)):=h7.other L8 (fF h7.vars h7.heap aj);have q1c:W1.cell? ⟨FB,1,none⟩=some (.slice av s.vars.length cv):=by rw [←Hv0.out];simp [World.cell?,Kw]
    have q1f:W1.frozen? ⟨FB,1,none⟩=false:=by simp [World.frozen?,Kw]
    obtain⟨sa,DD,DG,tH⟩:∃(a:Option Addr) (k1 k2:Nat),v'=.slice a k1 k2:=by
     exact Ku
    have anp:aK B w4 w5 (aJ FB mm aB v0 v1 v2 v3 v4) (aJ FB mm aB v0 v1 v2 v3 v4):=(aK.fresh (Below.refl _ _).drew af).trans (aK.grown (O':=aJ FB mm aB v0 v1 v2 v3 v4) Hg5.out bt (fun k e=>by cases e;exact⟨HF4.out.jY mb (List.mem_of_getElem? Hmb.out),.inr (.inr (.inl (List.mem_of_getElem? Hmb.out)))⟩) (fun _ h=>.inl h));have KB:B≤(w5.alloc (.cells #[.int .i64 n,.int .i64 fn,.bool false,.bool false] 114)).heap.size:=bt;have anq:aK B w5 (W1.setCell ⟨FB,1,none⟩ v') (aJ FB mm aB v0 v1 v2 v3 v4) (aJ FB mm aB v' v1 v2 v3 v4):=by
     refine(aK.fresh IE af).trans ((aK.grown (O':=fun g=>aJ FB mm aB v0 v1 v2 v3 v4 g∨v'.ownBlock=some g) L8 KB (fun k e=>⟨(h7.dr (g:=k) (.inr (.inr (.inr (.inl e))))).1,.inr (.inr (.inr (.inl e)))⟩) (fun g h=>?_)).trans (aK.grown (dY _ FB 1 _) (by have:=k2.size;omega) (fun k e=>by cases e;exact⟨fR,.inl (.inl rfl)⟩) (fun g h=>?_)))
     ·rcases h with h|h
      ·exact .inl h
      ·have:=k3;rw [h] at this;rcases this with e|e
       ·exact .inl (.inr (.inr (.inr (.inl (by rw [Hv0.out];exact e.symm)))))
       ·cases e;exact .inr ak
     ·left;rcases h with h|h|h|h|h|h|h|h
      ·exact .inl (.inl h)
      ·exact .inl (.inr (.inl h))
      ·exact .inl (.inr (.inr (.inl h)))
      ·exact .inr h
      ·exact .inl (.inr (.inr (.inr (.inr (.inl h)))))
      ·exact .inl (.inr (.inr (.inr (.inr (.inr (.inl h))))))
      ·exact .inl (.inr (.inr (.inr (.inr (.inr (.inr (.inl h)))))))
      ·exact .inl (.inr (.inr (.inr (.inr (.inr (.inr (.inr h)))))))
    have anr:bF B FB p c ns.length mm (cY ns s n fn).vars.length (W1.setCell ⟨FB,1,none⟩ v') (cY ns s n fn) (bl++[nm++[(dS ns (n:Int),(s.vars.length:Int))]]) aB v' v1 v2 v3 v4∧eu ns (cY ns s n fn) (bl++[nm++[(dS ns (n:Int),(s.vars.length:Int))]])∧aK B W (W1.setCell ⟨FB,1,none⟩ v') (aJ FB mm aB v0 v1 v2 v3 v4) (aJ FB mm aB v' v1 v2 v3 v4):=by
     rw [X2.out];refine⟨?_,fy.new hi n fn,asx.out.trans (anp.trans anq)⟩;have e9:(bl++[nm]).set bl.length (nm++[(x.text.data.toList,(s.vars.length:Int))])=bl++[nm++[(dS ns (n:Int),(s.vars.length:Int))]]:=by
      rw [ke,ByteArray.toList_eq];simp
     rw [e9] at h8;have e10:(kD (bY s (fn:Int)) (n:Int) (fn:Int)).vars.length=s.vars.length+1:=by simp [kD,bY]
     rw [e10];refine h8.congr ?_ ?_ ?_ ?_ ?_
     ·rfl
     ·show s.uses.set (Int.toNat (n:Int)) _=_;rw [Int.toNat_natCast];rfl
     ·rfl
     ·rfl
     ·show s.many.set (Int.toNat (fn:Int)) _=_;rw [Int.toNat_natCast,←Hm.out]
    have vE:=hid anr;subst tH;clear h7 h8 Fi L8 k1 k2 k3 anp anq anr hF5 F0 IE Kw;go_wp2;go_end0;refine⟨fun _=>⟨rfl,_,_,v1,v2,v3,v4,rfl,vE.out⟩,fun h=>?_⟩;rw [X2.out] at h;exact absurd he h
 ):p:=h
theorem abD (h:p:=by
 rw [ke] at hf;have n0:(0:Int)≤(n:Int):=af;have n1:(n:Int)<(ns.length:Int):=af;have pq:B≤W.heap.size:=by have:=hF.lt;have:=hF.ge;omega
 have lV:=hF.len;obtain⟨Ls,EC⟩:∃Ls,Ls=fY.length:=⟨_,rfl⟩;obtain⟨sv,sc,nR⟩:∃sv sc,v4=.slice sv Ls sc:=by
  exact Tq
 have c5:W.cell? ⟨FB,5,none⟩=some (.slice sv Ls sc):=Fw;have BH:(Ls:Int)≤100000:=af;have HF:=hid hF;have HN:=hid hN;have HL:=hid EC;have Hp:=hid hp;clear hF hN aX Fi ct aG ke EC nR hp;generalize ns[n]=x at*;have Hf:=hid hf;clear hf;go_enter Tryz.func215,Tryz.ntmps215;go_wp2;go_loopw [7] (fun iv wr=>∃(j:Nat) (iz:Int),j≤Ls∧iv=.int .i64 iz∧iz=(j:Int) - 1∧Below W.heap.size W wr∧Hid (cr (fY.take j).flatten x.text.toList=cr fY.flatten x.text.toList)) (fun iv _=>(intOf iv+1).toNat)
 case atStart=>exact⟨Ls,(Ls:Int) - 1,Nat.le_refl _,by first|rfl|go_num,rfl,Ts,hid (by rw [HL.out,List.take_length])⟩
 case round=>
  obtain⟨j,iz,hj,rfl,hiz,hB,hJ⟩:=hrel;have zj:=HF.out.later hB;have vz:=hid zj;have HB:=hid hB;rcases j with _|j
  ·have BJ:¬(0:Int)≤iz:=by omega
   clear zj hB;go_wp2_with (go_at_call 216;(with_reducible refine(lp _ _ _ _).mono ?_);rintro e w' ⟨rfl,rfl⟩);exact⟨rfl,rfl,aK.fresh HB.out pq⟩
  ·have pE:j<fY.length:=by have:=HL.out;omega
   obtain rfl:iz=(j:Int):=af;have OU:j<aB.length:=af;have hJ2:=hJ.out;rw [qp pE] at hJ2;have hnone:cr fY[j] x.text.toList=none:=by
    have h1:cr fY.flatten x.text.toList=none:=Hf.out;rw [h1] at hJ2;cases h2:cr fY[j] x.text.toList with
    |none=>rfl
    |some v=>rw [h2] at hJ2;cases hJ2
   rw [hnone,Option.none_or] at hJ2;have Fj:=zj.maps j aB[j] fY[j] (List.getElem?_eq_getElem OU) (List.getElem?_eq_getElem pE);obtain⟨g4,c4,hv4,hg4,Nc,agG,agH⟩:=tN zj.blocks OU ak;rw [List.getElem?_map,List.getElem?_eq_getElem OU] at Nc;simp only [Option.map_some] at Nc;obtain⟨cz,_,hlk⟩:=Fj.look vT;rw [hnone] at hlk;generalize aB[j]=mb at*;have d0:wr.cell? ⟨FB,0,none⟩=some (.slice (some ⟨b,o,none⟩) ns.length c):=by rw [←Hp.out];exact vz.out.cell 0
   have d5:wr.cell? ⟨FB,5,none⟩=some (.slice (some ⟨g4,0,none⟩) Ls c4):=by rw [HL.out,←lV,←hv4];exact vz.out.cell 5
   have k1w:=cell_later HB.out k1;have j0:(0:Int)≤(j:Int):=af;have j1:(j:Int)<(Ls:Int):=nw;have HJ2:=hid hJ2;clear hJ hJ2 zj hB Fj hiz hnone hv4;simp only [Option.isSome_none] at hlk;exact Tt
 ):p:=h
theorem adf (h:p:=by
 have aX:=hb0.mono h0;obtain⟨b,o,hp,bO,ct,aG,_,Fi,_,_⟩:=bh hN hn;have k1:=(aX.cell (p:=⟨b,_,none⟩) bO).trans Fi;have ke:dS ns (n:Int)=(ns[n]).text.toList:=ri;have vT:(ns[n]).text.size≤maxLen:=aG.2.2.1
 first
 |(have:=Q2;exact abB)
 |(have:=Tp;exact abD)
 ):p:=h
theorem abE (h:p:=by
 go_enter Tryz.func134,Tryz.ntmps134;go_wp2;go_ret;exact⟨by rw [Hn.out];rfl,Below.refl _ _⟩
 ):p:=h
theorem abF (h:p:=by
 go_enter Tryz.func79,Tryz.ntmps79;go_wp2;go_ret;exact⟨by rw [Hn.out];rfl,Below.refl _ _⟩
 ):p:=h
theorem acQ (h:p:=by
 have he:(s.toList==[])=true:=by
  rw [ByteArray.toList_eq,List.eq_nil_of_length_eq_zero (show s.data.toList.length=0 by omega)];rfl
 have hn:dR s.data.toList=false:=by rw [List.eq_nil_of_length_eq_zero (show s.data.toList.length=0 by omega)];rfl
 have Hn:=hid hn;clear hn h0 jf
 first
 |(have:=PM;exact abE)
 |(have:=V1;exact abF)
 ):p:=h
theorem abG (h:p:=by
 obtain⟨W1,hW1⟩:∃W1,W1=(((W.alloc (.cells #[.int .i64 0,.int .i64 0] 58)).alloc (.cells #[.int .i64 21,.string xt,.slice (some ⟨bk,ok,none⟩) dx.length xc,.int .i64 eY] 56)).alloc (.cells #[.int .i64 16,.string yt,.slice yp yks.length yc,.int .i64 ypl] 56)).drew:=⟨_,rfl⟩;rw [←hW1];have y0:W1.cell? ⟨W.heap.size+1+1,0,none⟩=some (.int .i64 16):=mz;have y1:W1.cell? ⟨W.heap.size+1+1,1,none⟩=some (.string yt):=mz;have z0:W1.cell? ⟨W.heap.size+1,0,none⟩=some (.int .i64 21):=mz;have z1:W1.cell? ⟨W.heap.size+1,1,none⟩=some (.string xt):=mz;have z2:W1.cell? ⟨W.heap.size+1,2,none⟩=some (.slice (some ⟨bk,ok,none⟩) dx.length xc):=mz;exact aeg
 ):p:=h
theorem abH (h:p:=by
 obtain⟨W1,hW1⟩:∃W1,W1=(((W.alloc (.cells #[.int .i64 0,.int .i64 0] 58)).alloc (.cells #[.int .i64 16,.string yt,.slice yp yks.length yc,.int .i64 ypl] 56)).alloc (.cells #[.int .i64 21,.string xt,.slice (some ⟨bk,ok,none⟩) dx.length xc,.int .i64 eY] 56)).drew:=⟨_,rfl⟩;rw [←hW1];have y0:W1.cell? ⟨W.heap.size+1,0,none⟩=some (.int .i64 16):=mz;have y1:W1.cell? ⟨W.heap.size+1,1,none⟩=some (.string yt):=mz;have z0:W1.cell? ⟨W.heap.size+1+1,0,none⟩=some (.int .i64 21):=mz;have z1:W1.cell? ⟨W.heap.size+1+1,1,none⟩=some (.string xt):=mz;have z2:W1.cell? ⟨W.heap.size+1+1,2,none⟩=some (.slice (some ⟨bk,ok,none⟩) dx.length xc):=mz;exact aeg
 ):p:=h
theorem adZ (h:p:=by
 obtain⟨⟨rfl,ke⟩,rfl⟩:=g2;rw [if_pos ⟨⟨rfl,ke⟩,rfl⟩] at Gk;have xx:(xt.toList==[116,121,112,101])=true:=by rw [ke];rfl
 obtain⟨bk,ok,z,rfl,lg,kkz,Xg,MO,hzc⟩:=Hz.out rfl ke;rw [MO] at Gk;have pV:=hid Gk;have Hzc:=hid hzc
 first
 |(have:=S9;exact abG)
 |(have:=Ta;exact abH)
 ):p:=h
theorem aiT (h:p:=by
 rcases kq with _|_|_|_|_|_|_|_|_|_|_|_|_|_|_|_|kq
 ·exact oy
 ·exact D2
 ·exact D5
 ·exact Uk
 ·exact Uf
 ·exact Ul
 ·exact sV
 ·cases ho;have aQ:=Am.lk 56 0 ah fun _=>rfl
  have nV:=Am.lk 57 1 ah fun _=>rfl
  have DN:=Am.lk 61 5 ah fun _=>rfl
  have Xm:=Am.lk 62 6 ah fun _=>rfl
  refine Am.aD rfl rfl (Am.dG (w':=w1) (f:=34) (args:=#[.slice (some ⟨b,o,none⟩) L c,.agg #[.slice p0 n0 c0,.slice p1 n1 c1,.slice p2 n2 c2,.slice p3 n3 c3],.int .i64 z0,.bool true]) ?_ ((H0.out w1 aX).mono ?_))
  ·exact Eb
  ·exact Ea
 ·exact oy
 ·exact D2
 ·exact D5
 ·exact Uh
 ·exact Ue
 ·exact Ui
 ·exact sV
 ·cases ho;have aQ:=Am.lk 64 8 ah fun _=>rfl
  have nV:=Am.lk 65 9 ah fun _=>rfl
  have DN:=Am.lk 69 13 ah fun _=>rfl
  have Xm:=Am.lk 70 14 ah fun _=>rfl
  refine Am.aD rfl rfl (Am.dG (w':=w1) (f:=34) (args:=#[.slice (some ⟨b,o,none⟩) L c,.agg #[.slice p0 n0 c0,.slice p1 n1 c1,.slice p2 n2 c2,.slice p3 n3 c3],.int .i64 z1,.bool true]) ?_ ((H1.out w1 aX).mono ?_))
  ·exact Eb
  ·exact Ea
 ·simp at ho
 ):p:=h
theorem aiU (h:p:=by
 rcases kq with _|_|_|_|_|_|_|_|_|_|_|_|_|_|_|_|kq
 ·exact oy
 ·exact D2
 ·exact D5
 ·exact Uk
 ·exact Uf
 ·exact Ul
 ·exact sV
 ·cases ho;have aQ:=Am.lk 56 0 ah fun _=>rfl
  have nV:=Am.lk 57 1 ah fun _=>rfl
  have DN:=Am.lk 61 5 ah fun _=>rfl
  have Xm:=Am.lk 62 6 ah fun _=>rfl
  refine Am.aD rfl rfl (Am.dG (w':=w1) (f:=34) (args:=#[.slice (some ⟨b,o,none⟩) L c,.agg #[.slice p0 n0 c0,.slice p1 n1 c1,.slice p2 n2 c2,.slice p3 n3 c3],.int .i64 z0,.bool false]) ?_ ((H0.out w1 aX).mono ?_))
  ·exact Eb
  ·exact Ea
 ·exact oy
 ·exact D2
 ·exact D5
 ·exact Uh
 ·exact Ue
 ·exact Ui
 ·exact sV
 ·cases ho;have aQ:=Am.lk 64 8 ah fun _=>rfl
  have nV:=Am.lk 65 9 ah fun _=>rfl
  have DN:=Am.lk 69 13 ah fun _=>rfl
  have Xm:=Am.lk 70 14 ah fun _=>rfl
  refine Am.aD rfl rfl (Am.dG (w':=w1) (f:=34) (args:=#[.slice (some ⟨b,o,none⟩) L c,.agg #[.slice p0 n0 c0,.slice p1 n1 c1,.slice p2 n2 c2,.slice p3 n3 c3],.int .i64 z1,.bool false]) ?_ ((H1.out w1 aX).mono ?_))
  ·exact Eb
  ·exact Ea
 ·simp at ho
 ):p:=h
theorem aiV (h:p:=by
 first
 |(have:=Z3;exact aix)
 |(have:=Z4;exact aiy)
 ):p:=h
theorem aii (h:p:=by
 intro kq o ca w1 ho hb ah K hK;have aX:Below W.heap.size W w1:=r8.out.trans (hb.mono r8.out.size);have hx0:=(hb.cell (p:=⟨W.heap.size,0,none⟩) xP.out).trans x0;have hx1:=(hb.cell (p:=⟨W.heap.size,1,none⟩) xP.out).trans x1;have hx2:=(hb.cell (p:=⟨W.heap.size,2,none⟩) xP.out).trans x2;have hx3:=(hb.cell (p:=⟨W.heap.size,3,none⟩) xP.out).trans x3;have Cj:=(hb.cell (p:=⟨W.heap.size+1,2,none⟩) IG.out).trans y2;have C7:=(aX.cell (p:=⟨bk,_,none⟩) lg).trans kc0;have r7:=(aX.cell (p:=⟨bk,_,none⟩) lg).trans kc1;have hfn:∀f,ca.eval (.func f)=.func (.func f) #[] #[]:=fun _=>rfl
 have hcs:∀v,ca.eval (.const v)=v:=fun _=>rfl
 first
 |(have:=aaf;exact aiT)
 |(have:=aag;exact aiU)
 |(have:=aax;exact aiV)
 ):p:=h
theorem aiW (h:p:=by
 exact amI
 ):p:=h
theorem aiX (h:p:=by
 exact aec
 ):p:=h
theorem amD (h:p:=by
 have abI:=trivial;exact ana
 ):p:=h
theorem aiY (h:p:=by
 have h2:bF B FB p c ns.length mm (sr s1 s).vars.length (w3.setCell ⟨FB,5,none⟩ (.slice (some ⟨g3,0,none⟩) Q Me)).drew (sr s1 s) fY aB u0 u1 u2 u3 (.slice (some ⟨g3,0,none⟩) Q Me):=by
  exact Uc
 have h4:aK B W (w3.setCell ⟨FB,5,none⟩ (.slice (some ⟨g3,0,none⟩) Q Me)).drew (aJ FB mm aB v0 v1 v2 v3 v4) (aJ FB mm aB u0 u1 u2 u3 (.slice (some ⟨g3,0,none⟩) Q Me)):=by
  exact aeB
 have Hf:=hid (And.intro h2 h4);have HS1:=hid hS1;have q1:((Q+1:Nat):Int) - 1=(Q:Int):=af;have q2:(Q:Int)≤(Me:Int):=af;have q3:(Q:Int)≤100001:=af;have q5:(0:Int)≤(Q:Int):=af;have xE:=hid fy;have H1:=hid h1;clear hE iZ hS1 nH h2 h4 hrow uV Ob hq fy h1 hQ1 lV;obtain⟨R,hR⟩:∃R,R=Q+1:=⟨_,rfl⟩;rw [←hR] at r5 q1;have q4:(R:Int)≤100002:=af;clear hR;go_wp2;have hwr:IntKind.i64.wrap (Q:Int)=(Q:Int):=nr af af;go_still_tail 14,ai;go_wp2;go_end0;exact⟨fun _=>⟨rfl,u0,u1,u2,u3,_,Hf.out.1,xE.out.cut HS1.out,Hf.out.2⟩,fun h=>absurd H1.out h⟩
 ):p:=h
theorem aiZ (h:p:=by
 have h2:bF B FB p c ns.length mm (sr s1 s).vars.length (w3.setCell ⟨FB,5,none⟩ (.slice (some ⟨g3,0,none⟩) Q Me)).drew (sr s1 s) (bl++[nm]) aB u0 u1 u2 u3 (.slice (some ⟨g3,0,none⟩) Q Me):=by
  exact Uc
 have h4:aK B W (w3.setCell ⟨FB,5,none⟩ (.slice (some ⟨g3,0,none⟩) Q Me)).drew (aJ FB mm aB v0 v1 v2 v3 v4) (aJ FB mm aB u0 u1 u2 u3 (.slice (some ⟨g3,0,none⟩) Q Me)):=by
  exact aeB
 have Hf:=hid (And.intro h2 h4);have HS1:=hid hS1;have q1:((Q+1:Nat):Int) - 1=(Q:Int):=af;have q2:(Q:Int)≤(Me:Int):=af;have q3:(Q:Int)≤100001:=af;have q5:(0:Int)≤(Q:Int):=af;have xE:=hid fy;have H1:=hid h1;clear hE iZ hS1 nH h2 h4 hrow uV Ob hq fy h1 hQ1 lV;obtain⟨R,hR⟩:∃R,R=Q+1:=⟨_,rfl⟩;rw [←hR] at r5 q1;have q4:(R:Int)≤100002:=af;clear hR;go_wp2;have hwr:IntKind.i64.wrap (Q:Int)=(Q:Int):=nr af af;go_still_tail 14,ai;go_wp2;go_end0;exact⟨fun _=>⟨rfl,[],u0,u1,u2,u3,_,trivial,by rw [List.append_nil];exact⟨Hf.out.1,xE.out.cut HS1.out,Hf.out.2⟩⟩,fun h=>absurd H1.out h⟩
 ):p:=h
theorem anc (h:p:=by
 obtain⟨rfl,ext,u0,u1,u2,u3,u4,_,iZ,hS1,nH⟩:=hE.1 h1;have hq:(aB++[W.heap.size]).length=Q+1:=by rw [HQ.out];simp
 obtain⟨sv3,Me,Ob,alk,alm,hrow⟩:=QL iZ.blocks ak (show Q≤(aB++[W.heap.size]).length by omega);have uV:((aB++[W.heap.size]).map fun b=>Value.map (some b)).take Q=aB.map fun b=>.map (some b):=by
  rw [HQ.out];simp
 rw [uV] at hrow;obtain⟨g3,cp3,hv3,_⟩:=tN iZ.blocks (i:=0) ak ak;obtain⟨rfl,rfl⟩:sv3=some ⟨g3,0,none⟩∧Me=cp3:=by rw [Ob] at hv3;cases hv3;exact⟨rfl,rfl⟩
 clear hv3;rw [hq] at Ob;have r5:w3.cell? ⟨FB,5,none⟩=some (.slice (some ⟨g3,0,none⟩) (Q+1) Me):=by rw [←Ob];exact iZ.cell 5
 have f5:w3.frozen? ⟨FB,5,none⟩=false:=iZ.frozen 5
 first
 |(have:=aam;exact aiY)
 |(have:=aan;exact aiZ)
 ):p:=h
theorem ai0 (h:p:=by
 rcases kq with _|_|_|_|_|_|_|_|_|kq
 ·cases ho;have aQ:=Am.lo 4 ah rfl;have ko:listed.getD 7 false=false:=T.behind 7 ai;have hA:=T.inv.pre ko;have Cj:=(hA.cell (p:=⟨DB,0,none⟩) Jh).trans Mf;have l7:=(hA.cell (p:=⟨W.heap.size,2,none⟩) lA).trans Mg;have kf:=(hA.cell (p:=⟨bk,ok,none⟩) uv).trans Mh;replace hK:=fun v w' (hbl:Below w1.heap.size w1 w') hφ=>hK v w' (Am.dO.jh ko aj (hA.trans (hbl.mono hA.size))) hφ
  refine Am.rC rfl rfl (hK _ _ (Below.refl _ _) rfl) ?_;exact TR
 ·cases ho;have aQ:=Am.lo 8 ah rfl;exact TQ
 ·cases ho;have aQ:=Am.lk 48 1 ah fun _=>rfl
  have ko:listed.getD 7 false=false:=T.behind 7 ai;have hA:=T.inv.pre ko;have Cj:=(hA.cell (p:=⟨DB,0,none⟩) Jh).trans Mf;have l7:=(hA.cell (p:=⟨W.heap.size,2,none⟩) lA).trans Mg;have kf:=(hA.cell (p:=⟨bk,ok,none⟩) uv).trans Mh;replace hK:=fun v w' (hbl:Below w1.heap.size w1 w') hφ=>hK v w' (Am.dO.jh ko aj (hA.trans (hbl.mono hA.size))) hφ
  refine Am.rC rfl rfl (hK _ _ (Below.refl _ _) rfl) ?_;exact Ml
 ·cases ho;have aQ:=Am.lk 49 2 ah fun _=>rfl
  have ko:listed.getD 7 false=false:=T.behind 7 ai;have hA:=T.inv.pre ko;have Cj:=(hA.cell (p:=⟨DB,0,none⟩) Jh).trans Mf;have l7:=(hA.cell (p:=⟨W.heap.size,2,none⟩) lA).trans Mg;have kf:=(hA.cell (p:=⟨bk,ok,none⟩) uv).trans Mh;replace hK:=fun v w' (hbl:Below w1.heap.size w1 w') hφ=>hK v w' (Am.dO.jh ko aj (hA.trans (hbl.mono hA.size))) hφ
  refine Am.rC rfl rfl (hK _ _ (Below.refl _ _) rfl) ?_;exact Mj
 ·cases ho;have aQ:=Am.lk 50 3 ah fun _=>rfl
  have ko:listed.getD 7 false=false:=T.behind 7 ai;have hA:=T.inv.pre ko;have Cj:=(hA.cell (p:=⟨DB,0,none⟩) Jh).trans Mf;have l7:=(hA.cell (p:=⟨W.heap.size,2,none⟩) lA).trans Mg;have kf:=(hA.cell (p:=⟨bk,ok,none⟩) uv).trans Mh;replace hK:=fun v w' (hbl:Below w1.heap.size w1 w') hφ=>hK v w' (Am.dO.jh ko aj (hA.trans (hbl.mono hA.size))) hφ
  refine Am.rC rfl rfl (hK _ _ (Below.refl _ _) rfl) ?_;exact Mm
 ·cases ho;have aQ:=Am.lo 1 ah rfl;exact TQ
 ·cases ho;have aQ:=Am.lk 52 5 ah fun _=>rfl
  exact TQ
 ·cases ho;have aQ:=Am.lk 47 0 ah fun _=>rfl
  have nV:=Am.lk 51 4 ah fun _=>rfl
  have DN:=Am.lk 53 6 ah fun _=>rfl
  have ko:listed.getD 7 false=false:=T.own;have hA:=T.inv.pre ko;have Cj:=(hA.cell (p:=⟨DB,0,none⟩) Jh).trans Mf;have l7:=(hA.cell (p:=⟨W.heap.size,2,none⟩) lA).trans Mg;have kf:=(hA.cell (p:=⟨bk,ok,none⟩) uv).trans Mh;refine Am.ql rfl rfl (Am.lF (f:=124) (args:=#[.int .i64 z,.bool (!yes),.pointer (some ⟨TB,0,none⟩),.pointer (some ⟨YB,0,none⟩),.pointer (some ⟨DB,0,none⟩)]) (w':=w1) ?_ ((je.out w1 hA).mono ?_))
  ·exact Kv
  ·exact am1
 ·cases ho;have Cg:=T.ahead 7 ai;obtain⟨r,hr,OX,kJ⟩:=T.inv.post Cg;have h54:ca.tmps.getD 54 undef=.bool r:=hr;replace h54:=Am.aS h54;refine Am.bX Am.dm (Am.aD rfl rfl (Am.aU (v:=.bool r) ?_ (hK _ _ (T.inv.LM Cg aj aj (by rw [T.size];simp) aj (fun r2 h2=>by rw [hr] at h2;cases h2;rfl)) trivial)));generalize ca.eval=ev at*;simp [go_sem,execOp,hfn,hcs,h54]
 ·simp at ho
 ):p:=h
theorem ai1 (h:p:=by
 rcases kq with _|_|_|_|_|_|_|_|_|_|_|_|_|_|_|_|_|kq
 ·exact aeQ
 ·exact aeT
 ·exact aeO
 ·exact aeN
 ·exact aeP
 ·exact aeV
 ·have abJ:=trivial;exact ant
 ·exact fj
 ·exact fj
 ·exact fj
 ·exact fj
 ·exact fj
 ·exact fj
 ·exact fj
 ·exact fj
 ·exact fj
 ·exact fj
 ·simp at ho
 ):p:=h
theorem ai2 (h:p:=by
 rcases kq with _|_|_|_|_|_|_|_|_|_|_|_|_|_|_|_|_|kq
 ·exact aeQ
 ·exact aeT
 ·exact aeO
 ·exact aeN
 ·exact aeP
 ·exact aeV
 ·have abK:=trivial;exact ant
 ·exact fj
 ·exact fj
 ·exact fj
 ·exact fj
 ·exact fj
 ·exact fj
 ·exact fj
 ·exact fj
 ·exact fj
 ·exact fj
 ·simp at ho
 ):p:=h
theorem ai3 (h:p:=by
 rcases kq with _|_|_|_|_|_|_|_|_|_|_|_|_|_|_|_|kq
 ·have VY:=trivial;exact afY
 ·exact am2
 ·cases ho;have aQ:=Am.lk 101 1 ah fun _=>rfl
  exact afu
 ·cases ho;have aQ:=Am.lk 102 2 ah fun _=>rfl
  have hI:=T.inv;have aX:=hI.below;have zK:=(aX.cell (p:=⟨TB,0,none⟩) l0).trans t0;have l7:w1.cell? ⟨W.heap.size,2,none⟩=some (.slice (some ⟨bk,ok,none⟩) q xc):=iK;have kf:=(aX.cell (p:=⟨bk,ok,none⟩) mK).trans kz;have pg:=(aX.cell (p:=⟨bk,ok+1,none⟩) mK).trans ED;refine Am.rC rfl rfl (hK _ _ (hI.keep aj aj aj (Below.refl _ _)) rfl) ?_;exact Mj
 ·cases ho;have aQ:=Am.lk 103 3 ah fun _=>rfl
  have hI:=T.inv;have aX:=hI.below;have zK:=(aX.cell (p:=⟨TB,0,none⟩) l0).trans t0;have l7:w1.cell? ⟨W.heap.size,2,none⟩=some (.slice (some ⟨bk,ok,none⟩) q xc):=iK;have kf:=(aX.cell (p:=⟨bk,ok,none⟩) mK).trans kz;have pg:=(aX.cell (p:=⟨bk,ok+1,none⟩) mK).trans ED;refine Am.rC rfl rfl (hK _ _ (hI.keep aj aj aj (Below.refl _ _)) rfl) ?_;exact Mm
 ·exact am2
 ·cases ho;have aQ:=Am.lk 105 5 ah fun _=>rfl
  exact afu
 ·cases ho;have aQ:=Am.lk 106 6 ah fun _=>rfl
  have hI:=T.inv;have aX:=hI.below;have zK:=(aX.cell (p:=⟨TB,0,none⟩) l0).trans t0;have l7:w1.cell? ⟨W.heap.size,2,none⟩=some (.slice (some ⟨bk,ok,none⟩) q xc):=iK;have kf:=(aX.cell (p:=⟨bk,ok,none⟩) mK).trans kz;have pg:=(aX.cell (p:=⟨bk,ok+1,none⟩) mK).trans ED;refine Am.rC rfl rfl (hK _ _ (hI.keep aj aj aj (Below.refl _ _)) rfl) ?_;generalize ca.eval=ev at*;simp [go_sem,execOp,hfn,hcs,aQ,hq3,hq4]
 ·cases ho;have aQ:=Am.lk 107 7 ah fun _=>rfl
  have hI:=T.inv;have aX:=hI.below;have zK:=(aX.cell (p:=⟨TB,0,none⟩) l0).trans t0;have l7:w1.cell? ⟨W.heap.size,2,none⟩=some (.slice (some ⟨bk,ok,none⟩) q xc):=iK;have kf:=(aX.cell (p:=⟨bk,ok,none⟩) mK).trans kz;have pg:=(aX.cell (p:=⟨bk,ok+1,none⟩) mK).trans ED;refine Am.rC rfl rfl (hK _ _ (hI.keep aj aj aj (Below.refl _ _)) rfl) ?_;generalize ca.eval=ev at*;simp [go_sem,execOp,hfn,hcs,aQ,pg]
 ·cases ho;have aQ:=Am.lk 100 0 ah fun _=>rfl
  have nV:=Am.lk 104 4 ah fun _=>rfl
  have DN:=Am.lk 108 8 ah fun _=>rfl
  have hI:=T.inv;have aX:=hI.below;have zK:=(aX.cell (p:=⟨TB,0,none⟩) l0).trans t0;have l7:w1.cell? ⟨W.heap.size,2,none⟩=some (.slice (some ⟨bk,ok,none⟩) q xc):=iK;have kf:=(aX.cell (p:=⟨bk,ok,none⟩) mK).trans kz;have pg:=(aX.cell (p:=⟨bk,ok+1,none⟩) mK).trans ED;refine Am.bX Am.dm (Am.aD rfl rfl (Am.dG (w':=w1) (f:=126) (args:=#[.pointer (some ⟨tb,0,none⟩),.int .i64 z,.int .i64 z1]) ?_ ((H6a.out w1 aX).mono ?_)))
  ·exact U9
  ·rintro e w' ⟨vv,kk,rfl,hb',jM⟩;exact⟨_,rfl,hK _ _ (hI.keep aj aj aj hb') ⟨vv,kk,rfl,jM⟩⟩
 ·have aap:=trivial;exact GF
 ·have aaq:=trivial;exact GF
 ·have aar:=trivial;exact GF
 ·have aas:=trivial;exact GF
 ·have aat:=trivial;exact GF
 ·cases ho;have aQ:=Am.lk 111 12 ah fun _=>rfl
  have hI:=T.inv;have aX:=hI.below;have zK:=(aX.cell (p:=⟨TB,0,none⟩) l0).trans t0;have l7:w1.cell? ⟨W.heap.size,2,none⟩=some (.slice (some ⟨bk,ok,none⟩) q xc):=iK;have kf:=(aX.cell (p:=⟨bk,ok,none⟩) mK).trans kz;have pg:=(aX.cell (p:=⟨bk,ok+1,none⟩) mK).trans ED;refine Am.rC rfl rfl (hK _ _ (hI.keep aj aj aj (Below.refl _ _)) rfl) ?_;exact zF
 ·simp at ho
 ):p:=h
theorem ai4 (h:p:=by
 rcases kq with _|_|_|_|_|_|_|_|_|_|_|_|_|_|_|kq
 ·have VZ:=trivial;exact afY
 ·exact aft
 ·cases ho;have aQ:=Am.lk 116 1 ah fun _=>rfl
  exact afw
 ·cases ho;have aQ:=Am.lk 117 2 ah fun _=>rfl
  have hI:=T.inv;have aX:=hI.below;have zK:=(aX.cell (p:=⟨TB,0,none⟩) l0).trans t0;have l7:w1.cell? ⟨W.heap.size,2,none⟩=some (.slice (some ⟨bk,ok,none⟩) q xc):=iK;have kf:=(aX.cell (p:=⟨bk,ok,none⟩) mK).trans kz;have pg:=(aX.cell (p:=⟨bk,ok+1,none⟩) mK).trans ED;refine Am.rC rfl rfl (hK _ _ (hI.keep aj (Below.refl _ _)) rfl) ?_;generalize ca.eval=ev at*;simp [go_sem,execOp,hfn,hcs,aQ,hq3,hq4]
 ·cases ho;have aQ:=Am.lk 118 3 ah fun _=>rfl
  have hI:=T.inv;have aX:=hI.below;have zK:=(aX.cell (p:=⟨TB,0,none⟩) l0).trans t0;have l7:w1.cell? ⟨W.heap.size,2,none⟩=some (.slice (some ⟨bk,ok,none⟩) q xc):=iK;have kf:=(aX.cell (p:=⟨bk,ok,none⟩) mK).trans kz;have pg:=(aX.cell (p:=⟨bk,ok+1,none⟩) mK).trans ED;refine Am.rC rfl rfl (hK _ _ (hI.keep aj (Below.refl _ _)) rfl) ?_;generalize ca.eval=ev at*;simp [go_sem,execOp,hfn,hcs,aQ,pg]
 ·exact aft
 ·cases ho;have aQ:=Am.lk 120 5 ah fun _=>rfl
  exact afw
 ·cases ho;have aQ:=Am.lk 121 6 ah fun _=>rfl
  have hI:=T.inv;have aX:=hI.below;have zK:=(aX.cell (p:=⟨TB,0,none⟩) l0).trans t0;have l7:w1.cell? ⟨W.heap.size,2,none⟩=some (.slice (some ⟨bk,ok,none⟩) q xc):=iK;have kf:=(aX.cell (p:=⟨bk,ok,none⟩) mK).trans kz;have pg:=(aX.cell (p:=⟨bk,ok+1,none⟩) mK).trans ED;refine Am.rC rfl rfl (hK _ _ (hI.keep aj (Below.refl _ _)) rfl) ?_;exact Mj
 ·cases ho;have aQ:=Am.lk 122 7 ah fun _=>rfl
  have hI:=T.inv;have aX:=hI.below;have zK:=(aX.cell (p:=⟨TB,0,none⟩) l0).trans t0;have l7:w1.cell? ⟨W.heap.size,2,none⟩=some (.slice (some ⟨bk,ok,none⟩) q xc):=iK;have kf:=(aX.cell (p:=⟨bk,ok,none⟩) mK).trans kz;have pg:=(aX.cell (p:=⟨bk,ok+1,none⟩) mK).trans ED;refine Am.rC rfl rfl (hK _ _ (hI.keep aj (Below.refl _ _)) rfl) ?_;exact Mm
 ·cases ho;have aQ:=Am.lk 115 0 ah fun _=>rfl
  have nV:=Am.lk 119 4 ah fun _=>rfl
  have DN:=Am.lk 123 8 ah fun _=>rfl
  have hI:=T.inv;have aX:=hI.below;have zK:=(aX.cell (p:=⟨TB,0,none⟩) l0).trans t0;have l7:w1.cell? ⟨W.heap.size,2,none⟩=some (.slice (some ⟨bk,ok,none⟩) q xc):=iK;have kf:=(aX.cell (p:=⟨bk,ok,none⟩) mK).trans kz;have pg:=(aX.cell (p:=⟨bk,ok+1,none⟩) mK).trans ED;refine Am.bX Am.dm (Am.aD rfl rfl (Am.dG (w':=w1) (f:=126) (args:=#[.pointer (some ⟨tb,0,none⟩),.int .i64 z1,.int .i64 z]) ?_ ((H6b.out w1 aX).mono ?_)))
  ·exact U9
  ·rintro e w' ⟨vv,kk,rfl,hb',jM⟩;exact⟨_,rfl,hK _ _ (hI.keep aj hb') ⟨vv,kk,rfl,jM⟩⟩
 ·have aau:=trivial;exact GF
 ·have aav:=trivial;exact GF
 ·have aaw:=trivial;exact GF
 ·cases ho;have aQ:=Am.lo 10 ah rfl;have hI:=T.inv;have aX:=hI.below;have zK:=(aX.cell (p:=⟨TB,0,none⟩) l0).trans t0;have l7:w1.cell? ⟨W.heap.size,2,none⟩=some (.slice (some ⟨bk,ok,none⟩) q xc):=iK;have kf:=(aX.cell (p:=⟨bk,ok,none⟩) mK).trans kz;have pg:=(aX.cell (p:=⟨bk,ok+1,none⟩) mK).trans ED;obtain⟨vv,kk,hs,jM⟩:∃vv kk:Int,ca.tmps.getD 125 undef=.agg #[.int .i64 vv,.int .i64 kk]∧(ib=true→vv=eb.1∧kk=eb.2):=Am.aV (j:=11) ah ai rfl rfl;obtain⟨a,b,hU,_⟩:=hI.box;have hc0:w1.cell? ⟨U,0,none⟩=some (.int .i64 a):=wu;have hc1:w1.cell? ⟨U,1,none⟩=some (.int .i64 b):=wu;have hcf:∀k,w1.frozen? ⟨U,k,none⟩=false:=fun k=>by simp [World.frozen?,hU]
  have hX:=hI.store (kA:=ca.put none undef) hAU hWU jM;replace hs:=Am.aS hs;refine Am.bX Am.dm (Am.aD rfl rfl (GD (w':=(w1.setCell ⟨U,0,none⟩ (.int .i64 vv)).setCell ⟨U,1,none⟩ (.int .i64 kk)) ?_ (hK undef _ hX trivial)));generalize ca.eval=ev at*;simp [go_sem,execOp,hfn,hcs,hs,aQ,hc0,hc1,hcf]
 ·cases ho;have aQ:=Am.lk 126 12 ah fun _=>rfl
  have hI:=T.inv;have aX:=hI.below;have zK:=(aX.cell (p:=⟨TB,0,none⟩) l0).trans t0;have l7:w1.cell? ⟨W.heap.size,2,none⟩=some (.slice (some ⟨bk,ok,none⟩) q xc):=iK;have kf:=(aX.cell (p:=⟨bk,ok,none⟩) mK).trans kz;have pg:=(aX.cell (p:=⟨bk,ok+1,none⟩) mK).trans ED;refine Am.rC rfl rfl (hK _ _ (hI.keep aj (Below.refl _ _)) rfl) ?_;exact zF
 ·simp at ho
 ):p:=h
theorem ai5 (h:p:=by
 rcases kq with _|_|_|_|_|_|_|_|kq
 ·cases ho;have aQ:=Am.lo 3 ah rfl;have ko:listed.getD 6 false=false:=T.behind 6 ai;have hA:=T.inv.pre ko;have zK:=(hA.cell (p:=⟨TB,0,none⟩) l0').trans t0';have NS:=(hA.cell (p:=⟨YB,0,none⟩) l1').trans t1';replace hK:=fun v w' (hbl:Below w1.heap.size w1 w') hφ=>hK v w' (Am.dO.jh ko aj (hA.trans (hbl.mono hA.size))) hφ
  refine Am.rC rfl rfl (hK _ _ (Below.refl _ _) rfl) ?_;generalize ca.eval=ev at*;simp [go_sem,execOp,hfn,hcs,aQ,NS]
 ·cases ho;have aQ:=Am.lo 2 ah rfl;have ko:listed.getD 6 false=false:=T.behind 6 ai;have hA:=T.inv.pre ko;have zK:=(hA.cell (p:=⟨TB,0,none⟩) l0').trans t0';have NS:=(hA.cell (p:=⟨YB,0,none⟩) l1').trans t1';replace hK:=fun v w' (hbl:Below w1.heap.size w1 w') hφ=>hK v w' (Am.dO.jh ko aj (hA.trans (hbl.mono hA.size))) hφ
  refine Am.rC rfl rfl (hK _ _ (Below.refl _ _) rfl) ?_;exact Vh
 ·cases ho;have aQ:=Am.lo 0 ah rfl;exact afx
 ·cases ho;have aQ:=Am.lk 32 1 ah fun _=>rfl
  have nV:=Am.lk 33 2 ah fun _=>rfl
  have ko:listed.getD 6 false=false:=T.behind 6 ai;have hA:=T.inv.pre ko;have zK:=(hA.cell (p:=⟨TB,0,none⟩) l0').trans t0';have NS:=(hA.cell (p:=⟨YB,0,none⟩) l1').trans t1';replace hK:=fun v w' (hbl:Below w1.heap.size w1 w') hφ=>hK v w' (Am.dO.jh ko aj (hA.trans (hbl.mono hA.size))) hφ
  refine Am.bX Am.dm (Am.aD rfl rfl (Am.dG (w':=w1) (f:=125) (args:=#[.pointer (some ⟨tb,0,none⟩),.int .i64 i]) ?_ ((H5.out w1 (pV.out.trans (hA.mono pV.out.size))).mono ?_)))
  ·generalize ca.eval=ev at*;simp [go_sem,execOp,hfn,hcs,aQ,nV]
  ·exact Bz
 ·cases ho;have aQ:=Am.lo 9 ah rfl;exact afx
 ·cases ho;have aQ:=Am.lk 34 3 ah fun _=>rfl
  have nV:=Am.lk 35 4 ah fun _=>rfl
  have ko:listed.getD 6 false=false:=T.behind 6 ai;have hA:=T.inv.pre ko;have zK:=(hA.cell (p:=⟨TB,0,none⟩) l0').trans t0';have NS:=(hA.cell (p:=⟨YB,0,none⟩) l1').trans t1';replace hK:=fun v w' (hbl:Below w1.heap.size w1 w') hφ=>hK v w' (Am.dO.jh ko aj (hA.trans (hbl.mono hA.size))) hφ
  refine Am.rC rfl rfl (hK _ _ (Below.refl _ _) rfl) ?_;generalize ca.eval=ev at*;simp [go_sem,execOp,hfn,hcs,aQ,nV]
 ·cases ho;have aQ:=Am.lk 31 0 ah fun _=>rfl
  have nV:=Am.lk 36 5 ah fun _=>rfl
  have ko:listed.getD 6 false=false:=T.own;have hA:=T.inv.pre ko;have zK:=(hA.cell (p:=⟨TB,0,none⟩) l0').trans t0';have NS:=(hA.cell (p:=⟨YB,0,none⟩) l1').trans t1';obtain⟨fn,tmps,assign,body,hy,hR⟩:=HY2.out w1 hA;dsimp only [qT] at hy;refine Am.ql rfl rfl (Am.JX (l:=l) (f:=fn) (tmps:=tmps) (assign:=assign) (body:=body) (w':=w1) ?_ (hR.mono ?_))
  ·generalize ca.eval=ev at*;simp [go_sem,execOp,hfn,hcs,aQ,nV,hy]
  ·exact am1
 ·cases ho;have Cg:=T.ahead 6 ai;obtain⟨r,hr,OX,kJ⟩:=T.inv.post Cg;have h37:ca.tmps.getD 37 undef=.bool r:=hr;replace h37:=Am.aS h37;refine Am.bX Am.dm (Am.aD rfl rfl (Am.aU (v:=.bool r) ?_ (hK _ _ (T.inv.LM Cg aj aj (by rw [T.size];simp) aj (fun r2 h2=>by rw [hr] at h2;cases h2;rfl)) trivial)));generalize ca.eval=ev at*;simp [go_sem,execOp,hfn,hcs,h37]
 ·simp at ho
 ):p:=h
theorem N9 (h:p:=by
 intro kq o ca w1 fuel listed T hK;have ho:=T.op;have ah:=T.look;have hfn:∀f,ca.eval (.func f)=.func (.func f) #[] #[]:=fun _=>rfl
 have hcs:∀v,ca.eval (.const v)=v:=fun _=>rfl
 first
 |(have:=abL;exact ai0)
 |(have:=abM;exact ai1)
 |(have:=abN;exact ai2)
 |(have:=ZZ;exact ai3)
 |(have:=Z0;exact ai4)
 |(have:=Z1;exact ai5)
 ):p:=h
theorem ai6 (h:p:=by
 by_cases lM:i<A.size
 ·exact aej
 ·have w1:¬(i:Int)<(A.size:Int):=by omega
  by_cases nS:i<A.size+more
  ·have w2:(i:Int)<(A.size:Int)+(more:Int):=by omega
   omega
  ·have VJ:=trivial;exact afR
 ):p:=h
theorem ai7 (h:p:=by
 by_cases lM:i<A.size
 ·exact aej
 ·have w1:¬(i:Int)<(A.size:Int):=by omega
  by_cases nS:i<A.size+more
  ·have w2:(i:Int)<(A.size:Int)+(more:Int):=by omega
   have hpl:0<O.data.toList.length:=by rw [HOl.out];omega
   have hO0:0<O.size:=af;have hw:mW A.data.toList O.data.toList B.data.toList more i=O[0]:=by
    unfold mW;rw [HAl.out,if_neg lM,if_pos nS,List.getD,List.getElem?_eq_getElem hpl];exact Gi
   have hl:(O[0]).toNat∈letters:=JS.out _ (.inr (.inl (by
    have:O[0]=O.data.toList[0]:=k6;rw [this];exact List.getElem_mem hpl)))
   rw [hw] at hd;have hAm:(A.size:Int)+(more:Int)≤20010:=af;obtain⟨cc,hcc⟩:∃cc,(O[0]).toNat=cc:=⟨_,rfl⟩;exact ahZ
  ·have VK:=trivial;exact afR
 ):p:=h
theorem anu (h:p:=by
 have ji:i<ks.length:=by rw [lN.out];exact hlt
 have hd:=Og A.data.toList O.data.toList B.data.toList more ks i ji;rw [hR.out] at hd;rcases Hk.out with hk|⟨b,o,rfl,hb,hcell⟩
 ·rw [List.map_eq_nil_iff] at hk;rw [hk] at ji;simp at ji
 have hc:=hcell i (by simpa using ji);rw [List.getElem_map] at hc;obtain⟨k0,Q4⟩:=anv.out ks[i] (List.getElem_mem ji);generalize ks[i]=kd at*;have hc2:w.cell? ⟨b,o+i,none⟩=some (.int .i64 (kd:Int)):=hc;have i0:(0:Int)≤(i:Int):=af;have i1:(i:Int)<(m:Int):=af;clear hcell hc hR
 first
 |(have:=abO;exact ai6)
 |(have:=abP;exact ai7)
 ):p:=h
theorem ai8 (h:p:=by
 by_cases hs:x.kind=18∨x.kind=19∨x.kind=20
 ·exact am0
 ·have VP:=trivial;exact afU
 ):p:=h
theorem ai9 (h:p:=by
 by_cases hs:x.kind=18∨x.kind=19∨x.kind=20
 ·exact am0
 ·have VQ:=trivial;exact afU
 ):p:=h
theorem ak2 (h:p:=by
 obtain⟨k,rfl,hk,hR⟩:=hrel;have oK:k<ns.length:=af;obtain⟨b,o,rfl,hb,hx,hf,c0,c1,c2,c3⟩:=bh Ha.out oK;have hvn:=Hv.out k _ hk hx;generalize ns[k]=x at*;obtain⟨f,hkf,hr⟩:=hR.out;obtain⟨f,rfl⟩:∃f',f=f'+1:=⟨f - 1,by omega⟩;have hka:=aL hx;have bW:=V2 hx;have k0:(0:Int)≤(k:Int):=af;have k1:(k:Int)<(L:Int):=af
 first
 |(have:=XM;exact ai8)
 |(have:=Z2;exact ai9)
 ):p:=h
theorem aja (h:p:=by
 have hr1:qu[k]?=some (m+1):=by rw [hrow2,List.getElem?_append_right af];simp [sN]
 have Hkm:=hid BI;have uw:=hid hrow2;have Hmk:=hid EG;have Kz:=hid sN;clear BI hrow2 EG sN hR;by_cases hu:0≤u∧u<(k:Int)
 ·have abQ:=trivial;exact anw
 ·exact aeH
 ):p:=h
theorem ajb (h:p:=by
 have hr1:qu[k]?=some m:=by rw [hrow2,List.getElem?_append_right af];simp [sN]
 have Hkm:=hid BI;have uw:=hid hrow2;have Hmk:=hid EG;have Kz:=hid sN;clear BI hrow2 EG sN hR;by_cases hu:0≤u∧u<(k:Int)
 ·have abR:=trivial;exact anw
 ·exact aeH
 ):p:=h
theorem ane (h:p:=by
 rcases Hx.out with ix|⟨bx,ox,hpx,De,C6⟩
 ·subst ix;have:=Hq.out;simp at this;omega
 subst hpx;have hjk:j<kids.length:=p9;replace C6:=C6 j hjk;have BI:=GI ds kids j hjk;generalize kids[j]=u at*;have q0:(0:Int)≤(j:Int):=af;have q1:(j:Int)<(q:Int):=af;obtain⟨m,hrow2,O3,j8,EG⟩:=hR.out;have sN:=Od.out
 first
 |(have:=aaC;exact aja)
 |(have:=aaD;exact ajb)
 ):p:=h
theorem ajc (h:p:=by
 have Hp:=hid (Cc W1 p c ns hS hc (aF hb1 ha) (hl0.later hb1));have Na:Hid (W1.heap.size=W.heap.size+1):=hid r6;have Ll:=hid hW1;obtain⟨⟨q0,d0,rfl,k0⟩,⟨q1,d1,rfl,k1⟩,⟨q2,d2,rfl,k2⟩,⟨q3,d3,rfl,k3⟩,_⟩:=hs;clear k0 k1 k2 k3 hS hc ha hl0 hb1;unfold tL;generalize hz:cy ns=out at*;obtain⟨os,oa,oe⟩:=out;have Hz:=hid hz;clear hz;generalize s.vars.length=n0 at*;generalize s.uses.length=n1 at*;generalize s.funcs.length=n2 at*;generalize s.cF.length=n3 at*;simp only;go_enter Tryz.func32,Tryz.ntmps32;go_wp2_with (first
   |(go_at_call 10;rw [←hW1];refine Hp.out.mono ?_;intro e w9 hE;obtain⟨u0,u1,u2,u3,rfl,gA,hsc⟩:=hE;rw [Hz.out] at hsc ⊢;have Nb:=hid (Jl HS.out (by rw [Hz.out];exact hsc));rw [Hz.out] at Nb;obtain⟨⟨p0,c0,rfl,h0⟩,⟨p1,c1,rfl,h1⟩,⟨p2,c2,rfl,h2⟩,⟨p3,c3,rfl,h3⟩,_⟩:=Nb.out;clear h0 h1 h2 h3 hsc hW1;simp only;obtain⟨R0,R1,R2,R3⟩:=q8 Ll.out gA;have hlt:W.heap.size<w9.heap.size:=by(have:=gA.size;have:=Na.out;omega))
   |(go_at_call 76;with_reducible refine(agz _ _ _ _ _ _ _ _ _ _ _ (Hs.out.later (gA.trans ((au _ _).mono gA.size))) (Nb.out.later (au _ _))).mono ?_;rintro e w' ⟨rfl,hb⟩;obtain⟨g,rfl⟩:=aC hb;clear hb))
 ·rw [decide_eq_true (by assumption:oe=0),Bool.true_and];go_ret;refine⟨rfl, ?_⟩;exact((pn.out.trans (gA.mono pn.out.size)).trans ((au _ _).mono (Nat.le_trans pn.out.size gA.size))).trans ((below_grow _ g).mono (Nat.le_trans (Nat.le_trans pn.out.size gA.size) (au _ _).size))
 ·go_ret;refine⟨rfl, ?_⟩;exact(pn.out.trans (gA.mono pn.out.size)).trans ((au _ _).mono (Nat.le_trans pn.out.size gA.size))
 ):p:=h
theorem ajd (h:p:=by
 have Ha:=hid (aF hb1 ha);have Hp:=hid (agC W1 p c ns hS hc (aF hb1 ha) (hl0.later hb1) v0 v1 v2 v3 s (hs.later hb1));have Na:Hid (W1.heap.size=W.heap.size+1):=hid r6;have Ll:=hid hW1;obtain⟨R,hR⟩:∃R,R=mH ns s n yes:=⟨_,rfl⟩;rw [←hR];unfold mH at hR;have HR:=hid hR;clear hR;have Hfo:=hid (C2 (s:=s) hS);have Hl0:=hid (hl0.later hb1);generalize hfb:tL ns s=fb at*;obtain⟨⟨q0,d0,rfl,k0⟩,⟨q1,d1,rfl,k1⟩,⟨q2,d2,rfl,k2⟩,⟨q3,d3,rfl,k3⟩,_⟩:=hs;clear k0 k1 k2 k3 hS hc hb1 hfb hl0;generalize s.vars.length=n0 at*;generalize s.uses.length=n1 at*;generalize s.funcs.length=n2 at*;generalize s.cF.length=n3 at*;by_cases vg:fb=true∧0≤n∧n<ns.length
 ·have Vi:=trivial;exact afG
 ·have hr:R=[]:=by
   rw [HR.out,if_neg];rintro⟨a,b,c,_⟩;exact vg ⟨a,b,c⟩
  subst hr;clear HR Hfo ha Ha Hs Hl0;cases fb with
  |false=>
   exact Kg
  |true=>
   by_cases xR:n<0
   ·exact Kg
   ·have BJ:(ns.length:Int)≤n:=by
     exact UZ
    exact Kg
 ):p:=h
theorem aje (h:p:=by
 have Ha:=hid (aF hb1 ha);have Hp:=hid (alc W1 p c ns hS hc (aF hb1 ha) (hl0.later hb1) v0 v1 v2 v3 s (hs.later hb1));have Na:Hid (W1.heap.size=W.heap.size+1):=hid r6;have Ll:=hid hW1;obtain⟨R,hR⟩:∃R,R=mH ns s n yes:=⟨_,rfl⟩;rw [←hR];unfold mH at hR;have HR:=hid hR;clear hR;have Hfo:=hid (C2 (s:=s) hS);have Hl0:=hid (hl0.later hb1);generalize hfb:tL ns s=fb at*;obtain⟨⟨q0,d0,rfl,k0⟩,⟨q1,d1,rfl,k1⟩,⟨q2,d2,rfl,k2⟩,⟨q3,d3,rfl,k3⟩,_⟩:=hs;clear k0 k1 k2 k3 hS hc hb1 hfb hl0;generalize s.vars.length=n0 at*;generalize s.uses.length=n1 at*;generalize s.funcs.length=n2 at*;generalize s.cF.length=n3 at*;by_cases vg:fb=true∧0≤n∧n<ns.length
 ·have Vj:=trivial;exact afG
 ·have hr:R=[]:=by
   rw [HR.out,if_neg];rintro⟨a,b,c,_⟩;exact vg ⟨a,b,c⟩
  subst hr;clear HR Hfo ha Ha Hs Hl0;cases fb with
  |false=>
   exact Kh
  |true=>
   by_cases xR:n<0
   ·exact Kh
   ·have BJ:(ns.length:Int)≤n:=by
     exact UZ
    exact Kh
 ):p:=h
theorem agD (h:p:=by
 obtain⟨W1,hW1⟩:∃W1,W1=W.alloc (.cells #[v0,v1,v2,v3] 28):=⟨_,rfl⟩;have hb1:Below W.heap.size W W1:=by rw [hW1];exact au _ _
 have HS:=hid hS;have Hs:=hid (hs.later hb1);have pn:=hid hb1
 first
 |(have:=XU;exact ajc)
 |(have:=XV;exact ajd)
 |(have:=abS;exact aje)
 ):p:=h
theorem ajf (h:p:=by
 obtain⟨yf,jL⟩:∃y:Nat→Value,∀t,ca.tmps.getD t undef=y t:=⟨_,fun _=>rfl⟩;simp only [jL] at bf;clear jL;subst bf;simp only [List.setIfInBounds_toArray,List.set_cons_succ,List.set_cons_zero];obtain⟨g1,rfl⟩:=aC hb;clear hb hd hs aT bp h55 h57 h61;simp only [Am.gI];go_wp2_with (first
  |(go_at_call 140;((with_reducible refine(wh.out _ Ed).mono ?_));rintro e w' ⟨rfl,hb⟩;obtain⟨g2,rfl⟩:=aC hb;clear hb)
  |(go_at_call 141;((with_reducible refine(RH.out _ Ed).mono ?_));rintro e w' ⟨rfl,hb⟩;obtain⟨g3,rfl⟩:=aC hb;clear hb)
  |(go_at_call 139;((with_reducible refine(eM _).mono ?_));rintro e w' ⟨rfl,hw⟩;rw [hw];clear hw w')
  |(go_at_call 142;((with_reducible refine(BN.out _ Ed).mono ?_));rintro e w' ⟨rfl,hb⟩;obtain⟨g4,rfl⟩:=aC hb;clear hb)
  )
 go_end0;have gA:Below (aY W U cU).heap.size (aY W U cU) (grow (((aY W U cU).alloc (.cells fa 135)).alloc (.cells #[.int .i64 k,.string text,.slice kp j aP,.int .i64 place] 56)) (((g1.app g2).app g3).app g4)):=dB;obtain⟨g9,h9⟩:=aC gA;exact Nv (by rw [adw.out];rfl) rfl g9 h9
 ):p:=h
theorem ajg (h:p:=by
 generalize ca.tmps.getD 56 undef=x56 at bf;generalize ca.tmps.getD 58 undef=x58 at bf;generalize ca.tmps.getD 59 undef=x59 at bf;generalize ca.tmps.getD 60 undef=x60 at bf;subst bf;simp only [List.setIfInBounds_toArray,List.set_cons_succ,List.set_cons_zero];obtain⟨g1,rfl⟩:=aC hb;clear hb hd hs aT bp h55 h57 h61;simp only [Am.gI]
 first
 |(have:=Zd;exact aiJ)
 |(have:=Ze;exact aiK)
 |(have:=Zf;exact aiL)
 ):p:=h
theorem alF (h:p:=by
 intro ca w1 hb hd hs aT bp;have h55:ca.tmps.getD 55 undef=.slice (some ⟨b,o,none⟩) L c:=aT 0 _ 55 rfl rfl;have h57:ca.tmps.getD 57 undef=.slice kp j aP:=aT 2 _ 57 rfl rfl;have h61:ca.tmps.getD 61 undef=str fo:=aT 6 _ 61 rfl rfl;have bf:=Am.bC hd hs bp;simp only [List.foldl_cons,List.foldl_nil,h55,h57,h61] at bf
 first
 |(have:=Zg;exact ajf)
 |(have:=aaB;exact ajg)
 ):p:=h
theorem abT (h:p:=by
 obtain⟨R,hR⟩:∃R,R=fL ns s.vars s.uses n:=⟨_,rfl⟩;rw [←hR];unfold fL at hR;rw [cD,Fz (ns:=ns) JT] at hR;obtain⟨bu,ou,u,hu,hpu,hbu,ku⟩:=fO h1 JT;rw [hu] at hR;have anh:=hf.uses u (by rw [←hu];exact List.getElem_mem JT);rw [hf.len];have H0:=hid h0;have HR:=hid hR;have hfv:=hf.vars;subst hp;subst hpu;clear ha h0 h1 h2 h3 hR aG ct cD hu hf JT;generalize ns[n]=x at*;obtain⟨xk,xt,xp,xc,dx,eY⟩:=x;simp only at k0 HR;by_cases hk:xk=17
 ·subst hk;by_cases C3:u<0
  ·have hr:R=-1:=by rw [HR.out,if_neg aj,if_pos C3]
   subst hr;clear HR;exact Un
  ·have VN:=trivial;exact afT
 ·have hr:R=-1:=by rw [HR.out,if_pos hk]
  subst hr;have hb:(xk !=17)=true:=by simpa using hk
  clear HR hk;exact Un
 ):p:=h
theorem abU (h:p:=by
 have x0:=hT.cell 0;have x1:=hT.cell 1;have x2:=hT.cell 2;have htl:=hT.lt;obtain⟨R,hR⟩:∃R,R=fL ns s.vars s.uses n:=⟨_,rfl⟩;rw [←hR];unfold fL at hR;rw [cD,Fz (ns:=ns) JT] at hR;obtain⟨bu,ou,u,hu,hpu,hbu,ku⟩:=fO h1 JT;rw [hu] at hR;have anh:=hf.uses u (by rw [←hu];exact List.getElem_mem JT);rw [hf.len] at x2;have H0:=hid h0;have HR:=hid hR;have hfv:=hf.vars;subst hp;subst hpu;clear ha h0 h1 h2 h3 hR aG ct cD hu hf JT hT;simp only [List.getElem?_toArray,List.getElem?_cons_zero,List.getElem?_cons_succ] at x0 x1 x2;generalize ns[n]=x at*;obtain⟨xk,xt,xp,xc,dx,eY⟩:=x;simp only at k0 HR;by_cases hk:xk=17
 ·subst hk;by_cases C3:u<0
  ·have hr:R=-1:=by rw [HR.out,if_neg aj,if_pos C3]
   subst hr;clear HR;exact Uv
  ·have VO:=trivial;exact afT
 ·have hr:R=-1:=by rw [HR.out,if_pos hk]
  subst hr;have hb:(xk !=17)=true:=by simpa using hk
  clear HR hk;exact Uv
 ):p:=h
theorem adb (h:p:=by
 obtain⟨b,o,hp,bO,ct,aG,k0,_,_,_⟩:=bh ha hn;have cD:=aL ct;obtain⟨⟨p0,c0,rfl,h0⟩,⟨p1,c1,rfl,h1⟩,⟨p2,c2,rfl,h2⟩,⟨p3,c3,rfl,h3⟩,_⟩:=hs;have n0:(0:Int)≤(n:Int):=af;have n1:(n:Int)<(ns.length:Int):=af;have JT:n<s.uses.length:=by rw [hf.len];exact hn
 first
 |(have:=QY;exact abT)
 |(have:=V3;exact abU)
 ):p:=h
theorem abV (h:p:=by
 have Hl:=hid hl;have hkey:keyOf Tryz.prog 9 (.string s)=some (.string s.data.toList):=keyOf_string_mk Tryz.underlying9 lf;have hname:dR s.data.toList=(!jE b.toNat && !decide (s.data.toList∈bV) && s.data.toList.all (fun b=>fW b.toNat)):=by
  rw [hbt];rfl
 clear jf hl h0 hbt;generalize Ip:b.toNat=c at*;clear Ip;have nO:=hid hname;clear hname;cases hd:jE c with
 |true=>
  have Hr:Hid (dR s.data.toList=false):=hid (by rw [nO.out,hd];rfl);clear nO;go_enter Tryz.func134,Tryz.ntmps134;go_wp2_with (go_at_call 175;((with_reducible refine(rU c jg _).mono ?_));rintro e w' ⟨rfl,hb⟩;obtain⟨g1,rfl⟩:=aC hb;clear hb);exact y9
 |false=>
  by_cases hm:s.data.toList∈bV
  ·have Hc:Hid (∀c2:Int,(Wf 18).atKey (.string s.data.toList) (iw 0)=.lit (.int .i64 c2)→c2=1):=hid fun c2 h=>by
    rw [acP,if_pos hm] at h;cases h;rfl
   have Hr:Hid (dR s.data.toList=false):=hid (by rw [nO.out,hd,decide_eq_true hm];rfl);clear nO hm;go_enter Tryz.func134,Tryz.ntmps134;go_wp2_with (first
  |(go_at_call 175;((with_reducible refine(rU c jg _).mono ?_));rintro e w' ⟨rfl,hb⟩;obtain⟨g1,rfl⟩:=aC hb;clear hb)
  |(go_at_call 176;refine(Bw _ (Hl.out.later (bG (Below.refl _ _) _))).mono ?_;rintro e w' ⟨rfl,hb,hown⟩;obtain⟨g2,rfl⟩:=aC hb;clear hb;rw [size_grow,grow_grow] at hown;obtain⟨c2,hrun,hat,_⟩:=hown.lookup_int AK Tryz.underlying119 Tryz.underlying3 (q9 _) hkey;have e2:=Hc.out _ hat;subst e2;clear hown hat))
   go_ret;exact⟨by rw [Hr.out];rfl,eK⟩
  ·have Hc:Hid (∀c2:Int,(Wf 18).atKey (.string s.data.toList) (iw 0)=.lit (.int .i64 c2)→c2=0):=hid fun c2 h=>by
    rw [acP,if_neg hm] at h;cases h;rfl
   have Hr:Hid (dR s.data.toList=s.data.toList.all (fun b=>fW b.toNat)):=hid (by rw [nO.out,hd,decide_eq_false hm];rfl);clear nO hm;go_enter Tryz.func134,Tryz.ntmps134;go_wp2_with (first
  |(go_at_call 175;((with_reducible refine(rU c jg _).mono ?_));rintro e w' ⟨rfl,hb⟩;obtain⟨g1,rfl⟩:=aC hb;clear hb)
  |(go_at_call 176;refine(Bw _ (Hl.out.later (bG (Below.refl _ _) _))).mono ?_;rintro e w' ⟨rfl,hb,hown⟩;obtain⟨g2,rfl⟩:=aC hb;clear hb;rw [size_grow,grow_grow] at hown;obtain⟨c2,hrun,hat,_⟩:=hown.lookup_int AK Tryz.underlying119 Tryz.underlying3 (q9 _) hkey;have e2:=Hc.out _ hat;subst e2;clear hown hat))
   go_loopw [19] (fun i wr=>∃(k:Nat) (g:gQ),i=.int .i64 k∧wr=grow w g∧k≤s.size∧Hid ((s.data.toList.drop k).all (fun b=>fW b.toNat)=dR s.data.toList)) (fun i _=>s.size - (intOf i).toNat)
   case atStart=>exact⟨0,_,rfl,rfl,by omega,hid Hr.out.symm⟩
   case round=>
    obtain⟨k,g,rfl,rfl,hk,hR⟩:=hrel;clear Hc hrun Hr;by_cases hlt:k<s.size
    ·have VW:=trivial;exact afX
    ·exact ae3
 ):p:=h
theorem abW (h:p:=by
 have hname:dR s.data.toList=(lS b.toNat && !decide (s.data.toList∈bV) && s.data.toList.all (fun b=>fW b.toNat)):=by
  rw [hbt];exact Oh b t
 have hw:∃x,x=decide (s.data.toList∈bV):=⟨_,rfl⟩;obtain⟨x,hx⟩:=hw;rw [←hx] at hname;have af0:Hid (∀w,Calls Tryz.prog 129 #[.string s] w fun e w'=>e=.returned (.bool x)∧Below w.heap.size w w'):=hid (by rw [hx];exact V4 s);clear jf h0 hbt hx;generalize Ip:b.toNat=c at*;clear Ip;have nO:=hid hname;clear hname;cases hd:lS c with
 |false=>
  have Hr:Hid (dR s.data.toList=false):=hid (by rw [nO.out,hd];rfl);clear nO;go_enter Tryz.func79,Tryz.ntmps79;go_wp2_with (go_at_call 128;((with_reducible refine(rV c jg _).mono ?_));rintro e w' ⟨rfl,hb⟩;obtain⟨g1,rfl⟩:=aC hb;clear hb);exact y9
 |true=>
  cases x with
  |true=>
   have Hr:Hid (dR s.data.toList=false):=hid (by rw [nO.out,hd];rfl);clear nO;go_enter Tryz.func79,Tryz.ntmps79;go_wp2_with (first
    |(go_at_call 128;((with_reducible refine(rV c jg _).mono ?_));rintro e w' ⟨rfl,hb⟩;obtain⟨g1,rfl⟩:=aC hb;clear hb)
    |(go_at_call 129;((with_reducible refine(af0.out _).mono ?_));rintro e w' ⟨rfl,hb⟩;obtain⟨g1,rfl⟩:=aC hb;clear hb))
   exact y9
  |false=>
   have Hr:Hid (dR s.data.toList=s.data.toList.all (fun b=>fW b.toNat)):=hid (by rw [nO.out,hd];rfl);clear nO;go_enter Tryz.func79,Tryz.ntmps79;go_wp2_with (first
    |(go_at_call 128;((with_reducible refine(rV c jg _).mono ?_));rintro e w' ⟨rfl,hb⟩;obtain⟨g1,rfl⟩:=aC hb;clear hb)
    |(go_at_call 129;((with_reducible refine(af0.out _).mono ?_));rintro e w' ⟨rfl,hb⟩;obtain⟨g1,rfl⟩:=aC hb;clear hb))
   go_loopw [3] (fun i wr=>∃(k:Nat) (g:gQ),i=.int .i64 k∧wr=grow w g∧k≤s.size∧Hid ((s.data.toList.drop k).all (fun b=>fW b.toNat)=dR s.data.toList)) (fun i _=>s.size - (intOf i).toNat)
   case atStart=>exact⟨0,_,rfl,rfl,by omega,hid Hr.out.symm⟩
   case round=>
    obtain⟨k,g,rfl,rfl,hk,hR⟩:=hrel;clear Hr;by_cases hlt:k<s.size
    ·have VX:=trivial;exact afX
    ·exact ae3
 ):p:=h
theorem acR (h:p:=by
 obtain⟨b,t,hbt⟩:∃b t,s.data.toList=b::t:=by
  exact ah9
 have he:(s.toList==[])=false:=by rw [ByteArray.toList_eq,hbt];rfl
 have h1:(1:Int)≤(s.size:Int):=af;have dL:0<s.size:=af;have hb0:(s[0]'dL).toNat=b.toNat:=by
  exact ah6
 have jg:=b.toNat_lt;have Hln:=hid jf
 first
 |(have:=PN;exact abV)
 |(have:=V5;exact abW)
 ):p:=h
theorem ajh (h:p:=by
 clear Ah hk cO az sL hAl qV hBl SN;go_enter Tryz.func64,Tryz.ntmps64;go_wp2_with (first
  |(go_at_call 112;((with_reducible refine(Hsh.out _).mono ?_));rintro e w' ⟨rfl,hb⟩;obtain⟨g0,rfl⟩:=aC hb;clear hb))
 go_loopw [10] (fun iv wr=>∃(i:Nat) (g:gQ),iv=.int .i64 i∧wr=grow w g∧i≤m∧Hid (jm A.data.toList O.data.toList B.data.toList more (ks.drop i) i=jm A.data.toList O.data.toList B.data.toList more ks 0)) (fun iv _=>m - (intOf iv).toNat)
 case atStart=>exact⟨0,_,rfl,rfl,by omega,rfl⟩
 case round=>
  obtain⟨i,g,rfl,rfl,hi,hR⟩:=hrel;by_cases hlt:i<m
  ·have abO:=trivial;exact anu
  ·exact aeM
 ):p:=h
theorem aji (h:p:=by
 have hO2:O.toList.isEmpty=false:=by
  rw [ByteArray.toList_eq];cases e:O.data.toList with
  |nil=>rw [e] at qV;simp at qV;omega
  |cons x l=>rfl
 have hmn:0<more:=af;clear Ah hk cO az sL hAl qV hBl SN;go_enter Tryz.func64,Tryz.ntmps64;go_wp2_with (first
  |(go_at_call 112;((with_reducible refine(Hsh.out _).mono ?_));rintro e w' ⟨rfl,hb⟩;obtain⟨g0,rfl⟩:=aC hb;clear hb))
 go_loopw [10] (fun iv wr=>∃(i:Nat) (g:gQ),iv=.int .i64 i∧wr=grow w g∧i≤m∧Hid (jm A.data.toList O.data.toList B.data.toList more (ks.drop i) i=jm A.data.toList O.data.toList B.data.toList more ks 0)) (fun iv _=>m - (intOf iv).toNat)
 case atStart=>exact⟨0,_,rfl,rfl,by omega,rfl⟩
 case round=>
  obtain⟨i,g,rfl,rfl,hi,hR⟩:=hrel;by_cases hlt:i<m
  ·have abP:=trivial;exact anu
  ·exact aeM
 ):p:=h
theorem anx (h:p:=by
 have Hsh:=hid Ah;have Hk:=hid hk;have lN:=hid cO;have anv:=hid az;have JS:=hid sL;have Yf:(more:Int)≤20000:=af;have O3:decide ((more:Int)<0)=false:=decide_eq_false af;have hAl:A.data.toList.length=A.size:=ak;have qV:O.data.toList.length=O.size:=ak;have hBl:B.data.toList.length=B.size:=ak;have HAl:=hid hAl;have HOl:=hid qV;have HBl:=hid hBl;have SN:(m:Int)=(A.size:Int)+(more:Int)+(B.size:Int):=af;have aso:=hid SN
 first
 |(have:=abX;exact ajh)
 |(have:=abY;exact aji)
 ):p:=h
theorem ajj (h:p:=by
 refine Am.ql rfl rfl (Am.lF (f:=124) (args:=#[.int .i64 z,.bool true,.pointer (some ⟨TB,0,none⟩),.pointer (some ⟨YB,0,none⟩),.pointer (some ⟨DB,0,none⟩)]) (w':=w1) ?_ ((je.out w1 hA).mono ?_))
 ·exact Kv
 clear aQ nV DN Cj l7 kf;have aX:=pV.out.trans (hA.mono pV.out.size);have hKt:=Kt.jU (N:=N) (ob:=ob) (B:=w0.heap.size) aX HE.out.below.size HE.out.size;rintro e w3 (⟨rfl,hj,hk⟩|⟨rfl,hx⟩)
 ·refine⟨_,rfl, ?_⟩;have TM:=(HE.out.later aX).step hk HmN.out HmO.out;have e2c:=TM.o7.cell;have e2l:=TM.o7.lt;have n3h:=hk.cells _ _ _ aj aj ((hA.block W.heap.size lA).trans nh);have n3l:W.heap.size<w3.heap.size:=(Array.getElem?_eq_some_iff.1 n3h).1;have n3c:w3.cell? ⟨W.heap.size,2,none⟩=some (.slice (some ⟨bk,ok,none⟩) q xc):=by simp [World.cell?,n3h]
  obtain⟨k3l,_,k3c⟩:=ajk.out w3 TM.below;refine Am.eJ (Φ:=GJ (.func (.func 124) #[] #[.pointer (some ⟨TB,0,none⟩),.pointer (some ⟨YB,0,none⟩),.pointer (some ⟨DB,0,none⟩)]) (.slice (some ⟨bk,ok,none⟩) q xc) W.heap.size bk ok z1 true) (I:=Am.Oa 6 (Am.dO 14 83 [(15,84),(16,7)] (fun w=>Below w3.heap.size w3 w) (fun r w=>(r=true∧J (pr++R) w∧Kt w0.heap.size N ob W w)∨(r=false∧∃q,Jx (pr++q) w)))) ai ai wP ?_ ?_ _ _ _ _ T.size' T.count' ⟨hdone,Am.dO.first (by rw [T.get' 14];exact T.behind 14 ai) (Below.refl _ _)⟩ (T.put_defers _) (T.zD _) T.DL (T.DY ai ai rfl ?_) (T.DZ _)
  rotate_left 2
  ·exact TZ
  ·intro kq o kL w4 ad9 xO T2 hK;have ho:=T2.op;have ah:=T2.look;have hfn:∀f,kL.eval (.func f)=.func (.func f) #[] #[]:=fun _=>rfl
   have hcs:∀v,kL.eval (.const v)=v:=fun _=>rfl
   rcases kq with _|_|_|_|_|_|_|_|_|_|_|_|_|_|_|_|_|kq
   ·exact U0
   ·exact U1
   ·exact U2
   ·exact U3
   ·exact U4
   ·exact U5
   ·exact U6
   ·exact aeC
   ·exact aeu
   ·exact aeA
   ·exact aey
   ·exact aex
   ·exact aez
   ·have aaz:=trivial;exact Gv
   ·have VL:=trivial;exact afS
   ·exact aeD
   ·exact aeK
   ·simp at ho
  ·exact aeh
 ·exact amF
 ):p:=h
theorem ajl (h:p:=by
 refine Am.ql rfl rfl (Am.lF (f:=124) (args:=#[.int .i64 z,.bool false,.pointer (some ⟨TB,0,none⟩),.pointer (some ⟨YB,0,none⟩),.pointer (some ⟨DB,0,none⟩)]) (w':=w1) ?_ ((je.out w1 hA).mono ?_))
 ·exact Kv
 clear aQ nV DN Cj l7 kf;have aX:=pV.out.trans (hA.mono pV.out.size);have hKt:=Kt.jU (N:=N) (ob:=ob) (B:=w0.heap.size) aX HE.out.below.size HE.out.size;rintro e w3 (⟨rfl,hj,hk⟩|⟨rfl,hx⟩)
 ·refine⟨_,rfl, ?_⟩;have TM:=(HE.out.later aX).step hk HmN.out HmO.out;have e2c:=TM.o7.cell;have e2l:=TM.o7.lt;have n3h:=hk.cells _ _ _ aj aj ((hA.block W.heap.size lA).trans nh);have n3l:W.heap.size<w3.heap.size:=(Array.getElem?_eq_some_iff.1 n3h).1;have n3c:w3.cell? ⟨W.heap.size,2,none⟩=some (.slice (some ⟨bk,ok,none⟩) q xc):=by simp [World.cell?,n3h]
  obtain⟨k3l,_,k3c⟩:=ajk.out w3 TM.below;refine Am.eJ (Φ:=GJ (.func (.func 124) #[] #[.pointer (some ⟨TB,0,none⟩),.pointer (some ⟨YB,0,none⟩),.pointer (some ⟨DB,0,none⟩)]) (.slice (some ⟨bk,ok,none⟩) q xc) W.heap.size bk ok z1 false) (I:=Am.Oa 6 (Am.dO 14 83 [(15,84),(16,7)] (fun w=>Below w3.heap.size w3 w) (fun r w=>(r=true∧J (pr++R) w∧Kt w0.heap.size N ob W w)∨(r=false∧∃q,Jx (pr++q) w)))) ai ai wP ?_ ?_ _ _ _ _ T.size' T.count' ⟨hdone,Am.dO.first (by rw [T.get' 14];exact T.behind 14 ai) (Below.refl _ _)⟩ (T.put_defers _) (T.zD _) T.DL (T.DY ai ai rfl ?_) (T.DZ _)
  rotate_left 2
  ·exact TZ
  ·intro kq o kL w4 ad9 xO T2 hK;have ho:=T2.op;have ah:=T2.look;have hfn:∀f,kL.eval (.func f)=.func (.func f) #[] #[]:=fun _=>rfl
   have hcs:∀v,kL.eval (.const v)=v:=fun _=>rfl
   rcases kq with _|_|_|_|_|_|_|_|_|_|_|_|_|_|_|_|_|kq
   ·exact U0
   ·exact U1
   ·exact U2
   ·exact U3
   ·exact U4
   ·exact U5
   ·exact U6
   ·exact aeC
   ·exact aeu
   ·exact aeA
   ·exact aey
   ·exact aex
   ·exact aez
   ·have aaA:=trivial;exact Gv
   ·have VM:=trivial;exact afS
   ·exact aeD
   ·exact aeK
   ·simp at ho
  ·exact aeh
 ·exact amF
 ):p:=h
theorem ant (h:p:=by
 cases ho;have aQ:=Am.lk 69 0 ah fun _=>rfl
 have nV:=Am.lk 73 4 ah fun _=>rfl
 have DN:=Am.lk 74 5 ah fun _=>rfl
 have hA:=T.inv.2;have Cj:=(hA.cell (p:=⟨DB,0,none⟩) Jh).trans Mf;have l7:=(hA.cell (p:=⟨W.heap.size,2,none⟩) lA).trans Mg;have kf:=(hA.cell (p:=⟨bk,ok,none⟩) uv).trans Mh;have hdone:∀j,j≤6→(listed.setIfInBounds 6 true).getD j false=true:=fun j hj=>by
  exact ah1
 first
 |(have:=abJ;exact ajj)
 |(have:=abK;exact ajl)
 ):p:=h
theorem ajm (h:p:=by
 obtain⟨yf,jL⟩:∃y:Nat→Value,∀t,ca.tmps.getD t undef=y t:=⟨_,fun _=>rfl⟩;simp only [jL] at bf;clear jL;exact aec
 ):p:=h
theorem ajn (h:p:=by
 generalize ca.tmps.getD 53 undef=x53 at bf;generalize ca.tmps.getD 54 undef=x54 at bf;generalize ca.tmps.getD 55 undef=x55 at bf;generalize ca.tmps.getD 56 undef=x56 at bf;generalize ca.tmps.getD 57 undef=x57 at bf;generalize ca.tmps.getD 58 undef=x58 at bf;generalize ca.tmps.getD 59 undef=x59 at bf;generalize ca.tmps.getD 60 undef=x60 at bf;generalize ca.tmps.getD 61 undef=x61 at bf;generalize ca.tmps.getD 62 undef=x62 at bf;generalize ca.tmps.getD 63 undef=x63 at bf
 first
 |(have:=ZY;exact aiW)
 |(have:=aai;exact aiX)
 ):p:=h
theorem ana (h:p:=by
 intro ca w5 f hI hall hd hs aT bp;have amZ:=hall 12 aj;obtain⟨m1,m2⟩:=hI.mid amZ;have h52:ca.tmps.getD 52 undef=.pointer (some ⟨FB,0,none⟩):=aT 0 _ 52 rfl rfl (fun z=>by unfold zC;exact Bool.and_false _);have bf:=Am.bC hd hs bp;simp only [List.foldl_cons,List.foldl_nil,h52] at bf;generalize ca.tmps.getD 64 undef=q4' at*
 first
 |(have:=aaj;exact ajm)
 |(have:=abI;exact ajn)
 ):p:=h
theorem ajo (h:p:=by
 have u2:u<(n:Int):=af;clear hu BI hdu Hkm;go_wp2;go_region;go_wp2;have ajp:(if m+1<du+1 then du+1 else m+1)=max m du+1:=by split<;>omega
 have xg:wrap64 (du+1)=du+1:=IntWalk.wrap64_in _ (by have:=Hdu.out;omega);rw [xg,ajp,drew_grow];refine⟨⟨j+1,qu.set k (max m du+1),_,by omega,by go_num,by rw [List.map_set],max m du, ?_, ?_, ?_, ?_⟩, ?_⟩
 ·rw [uw.out,List.set_append_right _ _ (by rw [Kz.out];exact Nat.le_refl _),Kz.out];simp
 ·have:=Hdu.out;omega
 ·have:=Hdu.out;omega
 ·rw [←aac.out];exact Hmk.out
 ·simp [intOf];omega
 ):p:=h
theorem ajq (h:p:=by
 have u2:u<(n:Int)+1:=af;clear hu BI hdu Hkm;go_wp2;go_region;go_wp2;have ajp:(if m<du then du else m)=max m du:=by split<;>omega
 rw [ajp,drew_grow];refine⟨⟨j+1,qu.set k (max m du),_,by omega,by go_num,by rw [List.map_set],max m du, ?_, ?_, ?_, ?_⟩, ?_⟩
 ·rw [uw.out,List.set_append_right _ _ (by rw [Kz.out];exact Nat.le_refl _),Kz.out];simp
 ·have:=Hdu.out;omega
 ·have:=Hdu.out;omega
 ·rw [←aac.out];exact Hmk.out
 ·simp [intOf];omega
 ):p:=h
theorem anw (h:p:=by
 have hr2:qu[u.toNat]?=some (ds.getD u.toNat 0):=by
  exact ah7
 have hdu:0≤ds.getD u.toNat 0∧ds.getD u.toNat 0≤(k:Int):=by
  exact ah4
 have BI:=Hkm.out m;rw [if_pos (by have:=Od.out;omega)] at BI;generalize ds.getD u.toNat 0=du at*;have aac:=hid BI;have Hdu:=hid hdu;have u0:=hu.1;have u1:=hu.2
 first
 |(have:=abQ;exact ajo)
 |(have:=abR;exact ajq)
 ):p:=h
theorem af (h:p:=by omega):p:=h
theorem dB (h:p:=by repeat (first|exact Below.refl _ _|refine bG ?_ _|refine bI ?_ _ _|refine bA ?_ _|refine bD ?_|refine bN ?_ _)):p:=h
theorem ai (h:p:=by kernel_rfl):p:=h
theorem eK (h:p:=by repeat (first|exact Below.refl _ _|refine bG ?_ _|refine bI ?_ _ _|refine bA ?_ _)):p:=h
theorem aj (h:p:=by decide):p:=h
theorem p6 (h:p:=by repeat (first|exact Below.refl _ _|refine bG ?_ _|refine bA ?_ _|refine bD ?_|refine bN ?_ _)):p:=h
theorem ux (h:p:=by repeat (first|exact Below.refl _ _|refine bG ?_ _|refine bN ?_ _|refine bD ?_|refine bA ?_ _)):p:=h
theorem iA (h:p:=by unfold ax;rw [Int.toNat_natCast,ct]):p:=h
theorem Ed (h:p:=by repeat (first|exact Below.refl _ _|exact HX.out|refine bG ?_ _|refine bI ?_ _ _|refine bA ?_ _|refine bD ?_|refine bN ?_ _)):p:=h
theorem wG (h:p:=by repeat (first|exact Below.refl _ _|refine bN ?_ _|refine bD ?_|refine bG ?_ _|refine bI ?_ _ _|refine bA ?_ _)):p:=h
theorem avo (h:p:=by rw [ByteArray.toList_eq];exact cS h (by decide)):p:=h
theorem ak (h:p:=by simp):p:=h
theorem bt (h:p:=by simp;omega):p:=h
theorem Cp (h:p:=by rw [nI];repeat (first|exact Below.refl _ _|refine bG ?_ _|refine bN ?_ _|refine bD ?_|refine bA ?_ _)):p:=h
theorem cX (h:p:=by rw [az];decide):p:=h
theorem tM (h:p:=by repeat (first|exact Below.refl _ _|refine bG ?_ _|refine bA ?_ _)):p:=h
theorem Bv (h:p:=by repeat (first|exact Below.refl _ _|exact HB.out|refine bG ?_ _|refine bI ?_ _ _|refine bA ?_ _)):p:=h
theorem k6 (h:p:=by simp [ByteArray.getElem_eq_getElem_data]):p:=h
theorem iG (h:p:=by rw [←hp];exact hF.cell 0):p:=h
theorem iK (h:p:=by simp [World.cell?,hI.node]):p:=h
theorem zM (h:p:=by have:=eB (ns:=ns) ns[n].kids 0 eD;rw [hz0] at this;exact this):p:=h
theorem TH (h:p:=by repeat (first|exact Below.refl _ _|exact pn.out|refine bG ?_ _|refine bA ?_ _|refine bD ?_|refine bN ?_ _|refine Below.setCell ?_ (by simp) _)):p:=h
theorem ir (h:p:=by simp [World.cell?,hz1]):p:=h
theorem Cr (h:p:=by have:=eB (ns:=ns) ns[n].kids 1 fq;rw [hz1] at this;exact this):p:=h
theorem eV (h:p:=by decide+kernel):p:=h
theorem ri (h:p:=by unfold dS;rw [Int.toNat_natCast,ct]):p:=h
theorem B9 (h:p:=by unfold Ints;rw [List.length_append,List.map_append];exact g2):p:=h
theorem avp (h:p:=by rw [ByteArray.toList_eq];exact qw h (by decide)):p:=h
theorem Be (h:p:=by rw [gP hA (fun _=>rfl) (fun _=>rfl)];exact hR):p:=h
theorem avq (h:p:=by rw [nI,(au _ _).block _ (by simp)];exact heap_alloc_new _ _):p:=h
theorem mz (h:p:=by rw [hW1];simp [go_sem]):p:=h
theorem pW (h:p:=by rw [List.length_take];omega):p:=h
theorem EP (h:p:=by rw [List.take_add_one,List.getElem?_eq_getElem ji,hz];rfl):p:=h
theorem lf (h:p:=by unfold maxLen;omega):p:=h
theorem rE (h:p:=by rw [List.append_nil];exact hE):p:=h
theorem nw (h:p:=by have:=HL.out;omega):p:=h
theorem P6 (h:p:=by repeat (first|exact Below.refl _ _|refine bN ?_ _|refine bD ?_|refine bA ?_ _)):p:=h
theorem avr (h:p:=by rw [hrow2,List.getElem?_append_right (by omega)];simp [sN]):p:=h
theorem Mq (h:p:=by unfold wM;rw [if_neg (by decide)];exact Below.refl _ _):p:=h
theorem p9 (h:p:=by have:=Hq.out;omega):p:=h
theorem Fu (h:p:=by simp [List.getD,List.getElem?_eq_getElem ji]):p:=h
theorem PF (h:p:=by rw [List.getD,List.getElem?_eq_getElem mG];exact List.getElem_mem mG):p:=h
theorem FX (h:p:=by rw [List.mem_zipIdx_iff_getElem?];exact ho):p:=h
theorem UE (h:p:=by rw [List.take_add_one,List.getElem?_eq_getElem eD,hz0];simp [fV]):p:=h
theorem mA (h:p:=by rw [h1];decide):p:=h
theorem mB (h:p:=by rw [h0];decide):p:=h
theorem Mb (h:p:=by have:=HM.out;rw [hr] at this;simp at this;omega):p:=h
theorem uj (h:p:=by have:=aX.size;omega):p:=h
theorem Ts (h:p:=by repeat (first|exact Below.refl _ _|refine bN ?_ _|refine bD ?_)):p:=h
theorem uy (h:p:=by simp [World.cell?,hz2]):p:=h
theorem Mr (h:p:=by simpa [Array.getElem?_setIfInBounds,hne] using hj):p:=h
theorem lQ (h:p:=by simpa using ha):p:=h
theorem ni (h:p:=by rw [he];decide):p:=h
theorem nj (h:p:=by rw [h5];decide):p:=h
theorem nM (h:p:=by rw [h2];decide):p:=h
theorem wQ (h:p:=by simp [World.cell?,hR9]):p:=h
theorem wR (h:p:=by simp [World.cell?,hqR]):p:=h
theorem Ln (h:p:=by have:=X1.out.lt;have:=X1.out.ge;omega):p:=h
theorem tP (h:p:=by have:=hF.lt;omega):p:=h
theorem oO (h:p:=by rw [h8];decide):p:=h
theorem oP (h:p:=by rw [h7];decide):p:=h
theorem oQ (h:p:=by rw [h6];decide):p:=h
theorem oU (h:p:=by rw [h4];decide):p:=h
theorem oV (h:p:=by rw [h3];decide):p:=h
theorem oW (h:p:=by rw [h9];decide):p:=h
theorem wu (h:p:=by simp [World.cell?,hU]):p:=h
theorem wE (h:p:=by have:=Fp.out;omega):p:=h
theorem Cb (h:p:=by simp [World.frozen?,hI.heap]):p:=h
theorem EU (h:p:=by rw [hdec,Nat.add_sub_cancel_left]):p:=h
theorem BW (h:p:=by rw [hW2];exact au _ _):p:=h
theorem LI (h:p:=by have:=yT listed i h4;omega):p:=h
theorem Ms (h:p:=by have:=gA.size;have:=Na.out;omega):p:=h
theorem Bk (h:p:=by rw [ho] at mF;exact mF):p:=h
theorem Ca (h:p:=by simp [World.cell?,hI.heap]):p:=h
theorem zL (h:p:=by rw [aZ eD,hz0]):p:=h
theorem oI (h:p:=by simpa using h):p:=h
theorem pM (h:p:=by simpa using h2):p:=h
theorem Fm (h:p:=by rw [←hp];exact nt.cell 0):p:=h
theorem Rc (h:p:=by rw [List.getD,List.getElem?_eq_getElem alz];rfl):p:=h
theorem Fw (h:p:=by rw [←nR];exact hF.cell 5):p:=h
theorem PC (h:p:=by rw [hS1];exact fun w h=>Oi z z0 z1 w h):p:=h
theorem qx (h:p:=by rw [z];omega):p:=h
theorem Qu (h:p:=by simp [List.getD,List.getElem?_eq_getElem fq]):p:=h
theorem QA (h:p:=by simp [List.getD,List.getElem?_eq_getElem eD]):p:=h
theorem Rw (h:p:=by rw [hA k (by rw [l2.T k e5,Bool.true_or]),e1]):p:=h
theorem BB (h:p:=by simp [World.cell?,De]):p:=h
theorem S4 (h:p:=by simp [List.getD,List.getElem?_eq_getElem pE]):p:=h
theorem Cq (h:p:=by rw [aZ fq,hz1]):p:=h
theorem LJ (h:p:=by rw [hW2];exact heap_alloc_new _ _):p:=h
theorem Sh (h:p:=by rw [List.mem_zipIdx_iff_getElem?];exact hp):p:=h
theorem S3 (h:p:=by simp;have:=Hq.out;have:=Hr.out;omega):p:=h
theorem LQ (h:p:=by simp [World.cell?,hAq,j6]):p:=h
theorem LU (h:p:=by simp [World.cell?,s0,j6]):p:=h
theorem LV (h:p:=by simp [World.cell?,t0,j6]):p:=h
theorem F7 (h:p:=by have:=hI.size;omega):p:=h
theorem Fa (h:p:=by have:=Hm.out;omega):p:=h
theorem Fx (h:p:=by simp [Value.oneCell']):p:=h
theorem x7 (h:p:=by simpa using hx):p:=h
theorem x8 (h:p:=by simpa using h3):p:=h
theorem rZ (h:p:=by simpa using hi):p:=h
theorem r6 (h:p:=by rw [hW1];simp):p:=h
end Go
