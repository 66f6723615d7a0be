/- A part of the proof. Conditions: none. -/
import Derived.Deep.AppendLies
import Derived.Test.YtjchnliaglecoaaGreatDoorZz
import Derived.Test.YtjchnliaglecoaaGreatDoorFa
import Derived.Test.YtjchnliaglecoaaGreatDoorAmUX
import Derived.Test.YtjchnliaglecoaaGreatDoorApX
import Derived.Test.YtjchnliaglecoaaGreatDoorTs
set_option linter.unusedVariables false
set_option linter.unusedSimpArgs false
set_option maxRecDepth 100000
set_option maxHeartbeats 8000000
namespace Go.Proofs.YtjchnliaglecoaaGreatDoor
open Go Go.RowKit Go.Nodes
theorem Tryz.Vb:(Tryz.prog.info? 114).map (fun i=>(i.zero,i.size,i.bytes))=some (some (.agg #[.int .i64 0,.int .i64 0,.bool false,.bool false]),4,24):=by kernel_rfl
section
variable {FB:Nat} {p:Option Addr} {c L:Nat} {W:World} {s:Fs} {v0 v1 v2 v3 v4 v5:Value}
theorem ints_at {B:Nat} {v:Value} {l:List Int} (h:Ints B W v l) {i:Nat} (hi:i<l.length):∃g cp,v=.slice (some ⟨g,0,none⟩) l.length cp∧B≤g∧W.cell? ⟨g,i,none⟩=some (.int .i64 l[i])∧W.frozen? ⟨g,i,none⟩=false∧l.length≤cp∧cp≤maxLen:=by
 rcases h.2 with⟨_,h2⟩|⟨g,cap,cur,hv,hg,hh,hn,hm,hsz,uV⟩
 ·omega
 ·refine⟨g,cap,hv,hg, ?_,by simp [World.frozen?,hh],hn,hm⟩;rw [cell_of_row W g i cur 3 (0,0) hh];have:(cur.toList.take (l.length*1))[i]?=some (.int .i64 l[i]):=by rw [uV];simp [List.getElem?_map,List.getElem?_eq_getElem hi]
  rw [List.getElem?_take,if_pos af] at this;simpa using this
theorem kR {g i:Nat} (x:Value) (h:∀cs t,W.heap[g]?=some (.cells cs t (0,0))→t=3∨t=114):eo FB W (W.setCell ⟨g,i,none⟩ x):=fun k cs t h1 h2 h3 h4=>by
 by_cases e:k=g
 ·subst e;rcases h cs t h1 with e|e
  ·exact absurd e h2
  ·exact absurd e h3
 ·rw [Below.heap_setCell _ _ _ _ (by simpa using e)];exact h1
theorem nL {B:Nat} {l:List Int} {g n cp:Nat} (h:Ints B W (.slice (some ⟨g,0,none⟩) n cp) l):∀cs t,W.heap[g]?=some (.cells cs t (0,0))→t=3∨t=114:=fun cs t hh=>by
 obtain⟨cc,fz,h2⟩:=Lib.ownsRow_kind h g rfl;rw [hh] at h2;cases h2;exact .inl rfl
theorem cC.aib {W1:World} {v':Value} {l':List Int} (h1:W1.heap[FB]?=some (.cells #[.slice p L c,v0,v1,v2,v3,v4,v5,.int .i64 s.bE,.int .i64 s.e] 63 (0,0))) (h2:gh (FB+1) W1 [v1,v2,v3,v',v5] [s.uses,s.funcs,s.cF,l',s.many]) (h3:W1.ownsRow (FB+1) 114 4 v0 s.vars.length (cx s.vars)):
  cC FB p c L (W1.setCell ⟨FB,5,none⟩ v') {s with seen:=l'} v0 v1 v2 v3 v' v5:=by
 exact Ub
structure uu (FB:Nat) (p:Option Addr) (c L:Nat) (s:Fs) (v0 v1 v2 v3 v4 v5:Value) (WX:World) (f:Nat→Bool) (ca:Act) (w:World):Prop where
 below:Below FB WX w
 keep:eo FB WX w
 size:WX.heap.size≤w.heap.size
 heap:w.heap[FB]?=some (.cells #[.slice p L c,v0,v1,v2,v3,v4,v5,.int .i64 s.bE,.int .i64 s.e] 63 (0,0))
 Ak:f 12=false→cC FB p c L w s v0 v1 v2 v3 v4 v5
 len:64<ca.tmps.size
 mid:f 12=true→gh (FB+1) w [v1,v2,v3,ca.tmps.getD 64 undef,v5] [s.uses,s.funcs,s.cF,s.seen++[(s.vars.length:Int)],s.many]∧w.ownsRow (FB+1) 114 4 v0 s.vars.length (cx s.vars)
theorem uu.put {WX w:World} {f:Nat→Bool} {ca:Act} (h:uu FB p c L s v0 v1 v2 v3 v4 v5 WX f ca w) {k:Nat} {d:Tmp} {v:Value} (hk:k≠12) (hd:d≠64):uu FB p c L s v0 v1 v2 v3 v4 v5 WX (fun j=>if j=k then true else f j) (ca.put (some d) v) w:=by
 have e:(if(12:Nat)=k then true else f 12)=f 12:=if_neg (fun e=>hk e.symm);refine⟨h.below,h.keep,h.size,h.heap,fun hf=>h.Ak (by rw [←e];exact hf),by simpa [Act.put] using h.len,fun hf=>?_⟩;rw [Am.aR hd];exact h.mid (by rw [←e];exact hf)
theorem uu.alloc {WX w:World} {f:Nat→Bool} {ca:Act} (h:uu FB p c L s v0 v1 v2 v3 v4 v5 WX f ca w) (IB:FB≤WX.heap.size) (o:Obj):uu FB p c L s v0 v1 v2 v3 v4 v5 WX f ca (w.alloc o):=by
 have hb:Below w.heap.size w (w.alloc o):=(Below.refl _ _).alloc (Nat.le_refl _) o;have hs:=h.size;exact⟨h.below.trans (hb.mono af),h.keep.trans (dH hb),Nat.le_trans hs hb.size,by rw [hb.block FB (Array.getElem?_eq_some_iff.1 h.heap).1];exact h.heap,fun hf=>(h.Ak hf).later hb,h.len,fun hf=>⟨(h.mid hf).1.later hb,bR (h.mid hf).2 hb⟩⟩
theorem qi {w w':World} {v:Value} {l:List Int} (h:Ints (FB+1) w v l) (hg:w.grownBy w' v.ownBlock):eo FB w w':=fun g cs t h1 h2 h3 h4=>by
 rw [hg.block g (Array.getElem?_eq_some_iff.1 h1).1 (fun e=>h2 ?_)]
 ·exact h1
 ·obtain⟨cc,fz,hh⟩:=Lib.ownsRow_kind h g e.symm;rw [h1] at hh;cases hh;rfl
theorem Ec {w w':World} {v:Value} {n:Nat} {xs:List Value} (h:w.ownsRow (FB+1) 114 4 v n xs) (hg:w.grownBy w' v.ownBlock):eo FB w w':=fun g cs t h1 h2 h3 h4=>by
 rw [hg.block g (Array.getElem?_eq_some_iff.1 h1).1 (fun e=>h3 ?_)]
 ·exact h1
 ·obtain⟨cc,fz,hh⟩:=Lib.ownsRow_kind h g e.symm;rw [h1] at hh;cases hh;rfl
theorem uu.appended {WX w w':World} {f:Nat→Bool} {ca:Act} {v':Value} (h:uu FB p c L s v0 v1 v2 v3 v4 v5 WX f ca w) (hg:w.grownBy w' v4.ownBlock) (hown:Ints (FB+1) w' v' (s.seen++[(s.vars.length:Int)])) (vp:v'.ownBlock=v4.ownBlock∨v'.ownBlock=some w.heap.size) (hf:f 12=false) (hlt:64<ca.tmps.size):
  uu FB p c L s v0 v1 v2 v3 v4 v5 WX (fun j=>if j=12 then true else f j) (ca.put (some 64) v') w':=by
 have hV:=h.Ak hf;have hI:=hV.rows.rows 3 _ _ rfl rfl;obtain⟨h1,h2,h3⟩:=hV.s7 3 rfl hg hown vp;have o9:∀k,v4.ownBlock=some k→FB≤k:=fun k hk=>by have:=(hI.lt k hk).1;omega
 refine⟨h.below.grown hg (by have:=hV.lt;omega) o9,h.keep.trans (qi hI hg),Nat.le_trans h.size hg.size,h1,fun hf=>(by simp at hf),by simpa [Act.put] using hlt,fun _=>⟨?_,h3⟩⟩;rw [Am.fC hlt];exact h2
end
def Ke (FB:Nat) (v0 v4:Value) (ln:Int):Nat→World→Value→Prop
 |0,w,v=>v=.pointer (some ⟨FB,0,none⟩)
 |1,w,v=>v=.pointer (some ⟨FB,0,none⟩)
 |2,w,v=>v=.pointer (some ⟨FB,0,none⟩)
 |3,w,v=>v=.pointer (some ⟨FB,5,none⟩)
 |4,w,v=>v=v4
 |5,w,v=>v=.pointer (some ⟨FB,0,none⟩)
 |6,w,v=>v=.pointer (some ⟨FB,0,none⟩)
 |7,w,v=>v=.pointer (some ⟨FB,1,none⟩)
 |8,w,v=>v=.pointer (some ⟨FB,1,none⟩)
 |9,w,v=>v=v0
 |10,w,v=>v=.int .i64 ln
 |11,w,v=>∃U:Nat,v=.slice (some ⟨U,0,none⟩) 1 1∧w.heap[U]?=some (.cells #[.int .i64 ln] 3 (0,0))
 |_,w,v=>True
def wM:Nat→World→World→Prop:=fun i w w'=>if i=12 then True else Below w.heap.size w w'
def zC (i j:Nat):Bool:=(Nat.beq i 12 && (Nat.beq j 4||Nat.beq j 11))
theorem vF {FB:Nat} {v0 v4:Value} {ln:Int}:∀(i j:Nat) (w w':World) (v:Value),i≠j→zC i j=false→wM i w w'→Ke FB v0 v4 ln j w v→Ke FB v0 v4 ln j w' v:=by
 intro i j w w' v Xk hsp hS h;unfold wM at hS;split at hS
 ·rename_i hz;subst hz;unfold Ke at*;split at h<;>first|exact h|exact absurd rfl Xk|exact absurd hsp aj
 ·unfold Ke at*;split at h<;>first|exact h|exact(fun⟨U,e,hh⟩=>⟨U,e,(hS.block U (Array.getElem?_eq_some_iff.1 hh).1).trans hh⟩) h
theorem Qy {FB:Nat} {p:Option Addr} {c:Nat} {ns:List Nd} {W0 W:World} {s:Fs} {v0 v1 v2 v3 v4 v5:Value} (hF:cC FB p c ns.length W s v0 v1 v2 v3 v4 v5) (hi:cN ns.length s) (hN:ay W0 p ns) (h0:W0.heap.size≤FB) (hb0:Below FB W0 W) (n fn:Nat) (hn:n<ns.length) (hfn:fn<s.funcs.length) (hsz:s.vars.length≤100000):
  Calls Tryz.prog 70 #[.pointer (some ⟨FB,0,none⟩),.int .i64 n,.int .i64 fn] W fun e' w'=>e'=.returned (.tuple #[])∧FP FB p c ns.length (cY ns s n fn) W w':=by
 have hNW:=aF (hb0.mono h0) hN;obtain⟨b,o,hp,bO,ct,aG,k0,k1,k2,k3⟩:=bh hNW hn;have ke:dS ns (n:Int)=(ns[n]).text.toList:=ri;have c0:=hF.cell 0;simp only [List.getElem?_toArray,List.getElem?_cons_succ,List.getElem?_cons_zero] at c0;have n0:(0:Int)≤(n:Int):=af;have n1:(n:Int)<(ns.length:Int):=af;generalize ns[n]=x at*;have HB:=hid (fun W'=>sU x.text W');rw [hp] at c0;have HF:=hid hF;have an7:=hid (hF.fp (Below.refl FB W) (eo.refl FB W) (Nat.le_refl _));clear hF;by_cases N1:0≤bn x.text.toList
 ·obtain⟨s0,hs0⟩:∃s0,s0=bB s n 110:=⟨_,rfl⟩;have Gt:cY ns s n fn=kD (if 200<(bY s0 fn).many.getD fn 0 then bB (bY s0 fn) n 2 else bY s0 fn) n fn:=by unfold cY;rw [ke,if_pos N1,←hs0];rfl
  obtain⟨Cz,CA,_,_,CB,Hg⟩:=eR s n 110;rw [←hs0] at Cz CA CB Hg;have hmc:∀m∈s0.many,0≤m∧m≤100000:=fun m hm=>by have:=hi.counts m (by rw [←Hg];exact hm);omega
  have od:fn<s0.many.length:=by rw [Hg,hi.many];exact hfn
  have ahO:s0.uses.length=ns.length:=by rw [CA];exact hi.uses
  have ahP:s0.vars.length≤100000:=by rw [Cz];exact hsz
  have ahQ:s0.seen.length≤100000:=by rw [CB];exact Nat.le_trans hi.few hsz
  have hul:n<s0.uses.length:=af;clear Cz CA CB Hg;go_enter Tryz.func70,Tryz.ntmps70;go_wp2_with (go_at_call 114;refine(HB.out _).mono ?_);intro e wa hh
  first|(subst hh;intro hb)|(obtain⟨rfl,hb⟩:=hh)
  have HPa:=hid (an7.out.later hb (by have:=HF.out.lt;omega));clear hb;obtain⟨a0,a1,a2,a3,a4,a5,ha⟩:=HPa.out.Ak;have Ha:=hid ha;clear ha;go_wp2_with (go_at_call 68;refine(yD Ha.out _ _).mono ?_);intro e wk hh
  first|(subst hh;intro hpk)|(obtain⟨rfl,hpk⟩:=hh)
  have HP:=hid (HPa.out.trans hpk);rw [←hs0] at HP;obtain⟨u0,u1,u2,u3,u4,u5,h⟩:=HP.out.Ak;clear hpk Ha HPa hs0;obtain⟨gm,cm,rfl,hgm,cmn,fmn,atv,atw⟩:=ints_at (h.rows.rows 4 _ _ rfl rfl) (show fn<s0.many.length from od);have yu:=hmc _ (List.getElem_mem od);have c6:=h.cell 6;simp only [List.getElem?_toArray,List.getElem?_cons_succ,List.getElem?_cons_zero] at c6;have hFg:¬FB=gm:=af;have hgF:¬gm=FB:=af;have O3:(0:Int)≤(fn:Int):=af;have j8:(fn:Int)<((s0.many).length:Int):=af;have hmg:s0.many.getD fn 0=s0.many[fn]'od:=by simp [List.getD,List.getElem?_eq_getElem od]
  generalize s0.many[fn]'od=m at*;have eb:bY s0 fn={s0 with many:=s0.many.set fn (m+1)}:=by unfold bY;rw [Int.toNat_natCast,hmg]
  have ec:(bY s0 fn).many.getD fn 0=m+1:=by rw [eb];simp [List.getD,od]
  have Hh:=hid h;have h3x:cC FB p c ns.length (wk.setCell ⟨gm,fn,none⟩ (.int .i64 (m+1))) {s0 with many:=s0.many.set fn (m+1)} u0 u1 u2 u3 u4 (.slice (some ⟨gm,0,none⟩) s0.many.length cm):=Hh.out.Hj rfl od (m+1);have WO:FP FB p c ns.length {s0 with many:=s0.many.set fn (m+1)} W (wk.setCell ⟨gm,fn,none⟩ (.int .i64 (m+1))):=HP.out.trans (h3x.fp ((Below.refl FB wk).setCell (p:=⟨gm,fn,none⟩) (show FB≤gm by omega) _) (kR _ (nL (Hh.out.rows.rows 4 _ _ rfl rfl))) ak);have H3x:=hid h3x;have TE:=hid WO;clear h3x WO h;by_cases Kc:200<m+1
  ·exact amz
  ·have aak:=trivial;exact anb
 ·obtain⟨s0,hs0⟩:∃s0,s0=s:=⟨_,rfl⟩;have Gt:cY ns s n fn=kD (if 200<(bY s0 fn).many.getD fn 0 then bB (bY s0 fn) n 2 else bY s0 fn) n fn:=by unfold cY;rw [ke,if_neg N1,←hs0];rfl
  have Cz:s0.vars=s.vars:=by rw [hs0]
  have CA:s0.uses=s.uses:=by rw [hs0]
  have CB:s0.seen=s.seen:=by rw [hs0]
  have Hg:s0.many=s.many:=by rw [hs0]
  have hmc:∀m∈s0.many,0≤m∧m≤100000:=fun m hm=>by have:=hi.counts m (by rw [←Hg];exact hm);omega
  have od:fn<s0.many.length:=by rw [Hg,hi.many];exact hfn
  have ahO:s0.uses.length=ns.length:=by rw [CA];exact hi.uses
  have ahP:s0.vars.length≤100000:=by rw [Cz];exact hsz
  have ahQ:s0.seen.length≤100000:=by rw [CB];exact Nat.le_trans hi.few hsz
  have hul:n<s0.uses.length:=af;clear Cz CA CB Hg;go_enter Tryz.func70,Tryz.ntmps70;go_wp2_with (go_at_call 114;refine(HB.out _).mono ?_);intro e wk hh
  first|(subst hh;intro hb)|(obtain⟨rfl,hb⟩:=hh)
  have HP:=hid (an7.out.later hb (by have:=HF.out.lt;omega));rw [←hs0] at HP;clear hb;obtain⟨u0,u1,u2,u3,u4,u5,h⟩:=HP.out.Ak;clear hs0;obtain⟨gm,cm,rfl,hgm,cmn,fmn,atv,atw⟩:=ints_at (h.rows.rows 4 _ _ rfl rfl) (show fn<s0.many.length from od);have yu:=hmc _ (List.getElem_mem od);have c6:=h.cell 6;simp only [List.getElem?_toArray,List.getElem?_cons_succ,List.getElem?_cons_zero] at c6;have hFg:¬FB=gm:=af;have hgF:¬gm=FB:=af;have O3:(0:Int)≤(fn:Int):=af;have j8:(fn:Int)<((s0.many).length:Int):=af;have hmg:s0.many.getD fn 0=s0.many[fn]'od:=by simp [List.getD,List.getElem?_eq_getElem od]
  generalize s0.many[fn]'od=m at*;have eb:bY s0 fn={s0 with many:=s0.many.set fn (m+1)}:=by unfold bY;rw [Int.toNat_natCast,hmg]
  have ec:(bY s0 fn).many.getD fn 0=m+1:=by rw [eb];simp [List.getD,od]
  have Hh:=hid h;have h3x:cC FB p c ns.length (wk.setCell ⟨gm,fn,none⟩ (.int .i64 (m+1))) {s0 with many:=s0.many.set fn (m+1)} u0 u1 u2 u3 u4 (.slice (some ⟨gm,0,none⟩) s0.many.length cm):=Hh.out.Hj rfl od (m+1);have WO:FP FB p c ns.length {s0 with many:=s0.many.set fn (m+1)} W (wk.setCell ⟨gm,fn,none⟩ (.int .i64 (m+1))):=HP.out.trans (h3x.fp ((Below.refl FB wk).setCell (p:=⟨gm,fn,none⟩) (show FB≤gm by omega) _) (kR _ (nL (Hh.out.rows.rows 4 _ _ rfl rfl))) ak);have H3x:=hid h3x;have TE:=hid WO;clear h3x WO h;by_cases Kc:200<m+1
  ·exact amz
  ·have aal:=trivial;exact anb
end Go.Proofs.YtjchnliaglecoaaGreatDoor

/- A part of the proof. Conditions: none. -/
set_option maxRecDepth 100000
set_option maxHeartbeats 8000000
namespace Go.Proofs.YtjchnliaglecoaaGreatDoor
open Go Go.RowKit Go.Nodes
section
variable {FB:Nat} {p:Option Addr} {c L:Nat} {W:World} {s:Fs} {v0 v1 v2 v3 v4 v5:Value}
theorem aob {vs:List Vr} (h:W.ownsRow (FB+1) 114 4 v0 vs.length (cx vs)) {i:Nat} (hi:i<vs.length):∃g cp,v0=.slice (some ⟨g,0,none⟩) vs.length cp∧FB+1≤g∧(∀j,j<4→W.cell? ⟨g,i*4+j,none⟩=(vs[i].cells)[j]?)∧(∀k,W.frozen? ⟨g,k,none⟩=false)∧∀cs t,W.heap[g]?=some (.cells cs t (0,0))→t=3∨t=114:=by
 rcases h.2 with⟨_,h2⟩|⟨g,cap,cur,hv,hg,hh,hn,hm,hsz,uV⟩
 ·omega
 ·refine⟨g,cap,hv,hg,fun j hj=>?_,fun k=>by simp [World.frozen?,hh],fun cs t h2=>by rw [hh] at h2;cases h2;exact .inr rfl⟩;exact Tn
theorem Ck:∀(vs:List Vr) (i:Nat) (hi:i<vs.length) (j:Nat) (hj:j<4) (x':Vr) (cv:Value),x'.cells=(vs[i].cells).set j cv→cx (vs.set i x')=(cx vs).set (i*4+j) cv
 |x::vs,0,hi,j,hj,x',cv,h=>by
  show x'.cells++cx vs=(x.cells++cx vs).set (0*4+j) cv;rw [List.set_append_left _ _ (by simp [Vr.cells];omega),h];simp
 |x::vs,i+1,hi,j,hj,x',cv,h=>by
  show x.cells++cx (vs.set i x')=(x.cells++cx vs).set ((i+1)*4+j) cv;rw [List.set_append_right _ _ (by simp [Vr.cells];omega),show(i+1)*4+j - x.cells.length=i*4+j by simp [Vr.cells];omega,Ck vs i rZ j hj x' cv h]
theorem ajO {vs:List Vr} {g cp:Nat} (h:W.ownsRow (FB+1) 114 4 (.slice (some ⟨g,0,none⟩) vs.length cp) vs.length (cx vs)) {i:Nat} (hi:i<vs.length) {j:Nat} (hj:j<4) (x':Vr) (cv:Value) (hx:x'.cells=(vs[i].cells).set j cv):
  (W.setCell ⟨g,i*4+j,none⟩ cv).ownsRow (FB+1) 114 4 (.slice (some ⟨g,0,none⟩) vs.length cp) (vs.set i x').length (cx (vs.set i x')):=by
 exact ad5
theorem cC.xN (h:cC FB p c L W s v0 v1 v2 v3 v4 v5) {g cp i:Nat} (hv:v0=.slice (some ⟨g,0,none⟩) s.vars.length cp) (hi:i<s.vars.length) {j:Nat} (hj:j<4) (x':Vr) (cv:Value) (hx:x'.cells=(s.vars[i].cells).set j cv):
  cC FB p c L (W.setCell ⟨g,i*4+j,none⟩ cv) {s with vars:=s.vars.set i x'} v0 v1 v2 v3 v4 v5:=by
 subst hv;exact h.zy (dY W g _ _) (ajO h.vars hi hj x' cv hx)
end
theorem W7 {l:List Int} {j:Nat} (h:j<l.length):(l.take (j+1)).reverse=l[j]::(l.take j).reverse:=by
 rw [List.take_succ_eq_append_getElem h];simp
theorem sR (l:List Vr) (i:Nat) (h:i<l.length) (f:Vr→Vr):l.modify i f=l.set i (f l[i]):=by
 apply List.ext_getElem?;intro k;rw [List.getElem?_modify,List.getElem?_set];by_cases e:i=k
 ·subst e;simp [h]
 ·simp [e]
theorem W8 {l:List Vr} {i:Nat} (h:i<l.length):l.set i l[i]=l:=List.set_getElem_self h
theorem ac6 {FB:Nat} {p:Option Addr} {c:Nat} {ns:List Nd} {W0 W:World} {s:Fs} {v0 v1 v2 v3 v4 v5:Value} (hF:cC FB p c ns.length W s v0 v1 v2 v3 v4 v5) (hi:cN ns.length s) (hN:ay W0 p ns) (h0:W0.heap.size≤FB) (hb0:Below FB W0 W) (n fn:Nat) (hn:n<ns.length) (hsz:s.vars.length≤100000) (set:Bool):
  Calls Tryz.prog 67 #[.pointer (some ⟨FB,0,none⟩),.int .i64 n,.int .i64 fn,.bool set] W fun e' w'=>e'=.returned (.tuple #[])∧FP FB p c ns.length (jq ns s n fn set) W w':=by
 have hNW:=aF (hb0.mono h0) hN;obtain⟨P,hP⟩:∃P:Int→Bool,P=fun v=>dS ns (fP s v)==dS ns n:=⟨_,rfl⟩
 have hus:jq ns s n fn set=match s.seen.reverse.find? P with|some v=>bT s n v fn set|none=>bB s n 110:=by rw [hP];rfl
 obtain⟨U,hU⟩:∃U,U=jq ns s n fn set:=⟨_,rfl⟩;rw [←hU] at hus ⊢;have Hus:=hid hus;have HN:=hid hNW;have HF:=hid hF;have HP:=hid hP;have yz:s.seen.length≤100000:=Nat.le_trans hi.few hsz;obtain⟨Ls,EC⟩:∃Ls,Ls=s.seen.length:=⟨_,rfl⟩;obtain⟨sv,sc,nR⟩:∃sv sc,v4=.slice sv Ls sc:=by
  rcases(hF.rows.rows 3 _ _ rfl rfl).2 with⟨e1,e2⟩|⟨g,cap,cur,e1,_⟩
  ·exact⟨none,0,by rw [e1,EC,e2]⟩
  ·exact⟨_,_,by rw [EC];exact e1⟩
 have c5:W.cell? ⟨FB,5,none⟩=some (.slice sv Ls sc):=Fw;have HL:=hid EC;clear hus hNW hU hP hF EC nR;have BH:(Ls:Int)≤100000:=by rw [HL.out];omega
 go_enter Tryz.func67,Tryz.ntmps67;go_wp2;go_loopw [8] (fun iv wr=>∃(j:Nat) (iz:Int),j≤Ls∧iv=.int .i64 iz∧iz=(j:Int) - 1∧Below W.heap.size W wr∧Hid ((s.seen.take j).reverse.find? P=s.seen.reverse.find? P)) (fun iv _=>(intOf iv+1).toNat)
 case atStart=>exact⟨Ls,(Ls:Int) - 1,Nat.le_refl _,by first|rfl|go_num,rfl,Ts,hid (by rw [HL.out,List.take_length])⟩
 case round=>
  obtain⟨j,iz,hj,rfl,hiz,hB,hJ⟩:=hrel;have zj:=HF.out.later hB;have vz:=hid zj;have HB:=hid hB;rcases j with _|j
  ·have BJ:¬(0:Int)≤iz:=by omega
   have hres:U=bB s n 110:=by
    rw [Hus.out,←hJ.out];rfl
   have jc:=hid hres;clear hres zj hB;go_wp2_with (go_at_call 68;refine(yD vz.out _ _).mono ?_);intro e w9 hh
   first|(subst hh;intro kJ)|(obtain⟨rfl,kJ⟩:=hh)
   have QH:=hid kJ;clear kJ;go_wp2;go_end0;refine⟨rfl, ?_⟩;rw [jc.out];exact((HF.out.fp (Below.refl FB W) (eo.refl FB W) (Nat.le_refl _)).later HB.out (by have:=HF.out.lt;omega)).trans QH.out
  ·have pE:j<s.seen.length:=by have:=HL.out;omega
   obtain rfl:iz=(j:Int):=af;have uV:=W7 pE;have hJ2:=hJ.out;rw [uV] at hJ2;have yU:=hi.seen _ (List.getElem_mem pE);obtain⟨gs,scc,hgs,aAe,csj,_,_,_⟩:=ints_at (zj.rows.rows 3 _ _ rfl rfl) pE;generalize s.seen[j]'pE=v at*;obtain⟨vv,rfl⟩:∃vv:Nat,v=vv:=⟨v.toNat,by omega⟩;have xA:vv<s.vars.length:=af;obtain⟨gv,vc,Xp,amy,Xq,fvj,kv⟩:=aob zj.vars xA;have CG:fP s (vv:Int)=s.vars[vv].node:=by unfold fP;rw [Int.toNat_natCast,List.getElem?_eq_getElem xA]
   have hxr:=hi.nodes _ (List.getElem_mem xA);obtain⟨q,hq⟩:∃q:Nat,s.vars[vv].node=(q:Int):=⟨(s.vars[vv].node).toNat,by omega⟩;have hql:q<ns.length:=af;obtain⟨b,o,hp1,bO,ct,_,_,k1,_,_⟩:=bh HN.out hn;obtain⟨b',o',Aj,_,hqx,_,_,k2,_,_⟩:=bh HN.out hql;rw [hp1] at Aj;cases Aj;have hPv:P (vv:Int)=((ns[q]).text.toList==(ns[n]).text.toList):=by
    rw [HP.out];show(dS ns (fP s (vv:Int))==dS ns (n:Int))=_;rw [CG,hq];unfold dS;rw [Int.toNat_natCast,Int.toNat_natCast,hqx,ct]
   have Fi:=cell_later HB.out k1;have L8:=cell_later HB.out k2;generalize (ns[q]).text=tq at*;generalize (ns[n]).text=tn at*;have d0:wr.cell? ⟨FB,0,none⟩=some (.slice (some ⟨b,o,none⟩) ns.length c):=by rw [←hp1];exact vz.out.cell 0
   have d1:wr.cell? ⟨FB,1,none⟩=some (.slice (some ⟨gv,0,none⟩) s.vars.length vc):=by rw [←Xp];exact vz.out.cell 1
   have d5:wr.cell? ⟨FB,5,none⟩=some (.slice (some ⟨gs,0,none⟩) Ls scc):=by rw [HL.out,←hgs];exact vz.out.cell 5
   have e0:wr.cell? ⟨gv,vv*4,none⟩=some (.int .i64 (q:Int)):=by have:=Xq 0 aj;rw [←hq];exact this
   have e1:wr.cell? ⟨gv,vv*4+1,none⟩=some (.int .i64 s.vars[vv].fn):=Xq 1 aj;have j0:(0:Int)≤(j:Int):=af;have j1:(j:Int)<(Ls:Int):=nw;have v0':(0:Int)≤(vv:Int):=af;have v1':(vv:Int)<(s.vars.length:Int):=af;have q0':(0:Int)≤(q:Int):=af;have Xg:(q:Int)<(ns.length:Int):=af;have n0:(0:Int)≤(n:Int):=af;have n1:(n:Int)<(ns.length:Int):=af;have HJ2:=hid hJ2;have HPv:=hid hPv;have Hnd:=hid CG;have Hcv:=hid Xq;clear hJ hJ2 hPv k1 k2 zj hB uV yU hxr CG Xq hq hiz;cases hte:(tq.toList==tn.toList) with
   |false=>
    have Hte:=hid hte;go_wp2;go_quiet (fail);go_wp2;go_roundw
    case rel=>
     refine⟨j,_,by omega,rfl,by first|rfl|go_num,by repeat (first|exact HB.out|refine bN ?_ _|refine bD ?_),hid ?_⟩;have:=HJ2.out;rw [List.find?_cons_of_neg (by rw [HPv.out,Hte.out];decide)] at this;exact this
    case measure=>
     show(((j:Int) - 1)+1).toNat<((j:Int)+1).toNat;omega
   |true=>
    have agf:s.seen.reverse.find? P=some (vv:Int):=by
     rw [←HJ2.out,List.find?_cons_of_pos (by rw [HPv.out,hte])]
    have jc:Hid (U=bT s n vv fn set):=hid (by rw [Hus.out,agf]);clear agf;have BQ:n<s.uses.length:=by rw [hi.uses];exact hn
    obtain⟨gu,cu,Al,ahM,cun,amx,Tu,Tv⟩:=ints_at (vz.out.rows.rows 0 _ _ rfl rfl) BQ;have d2:wr.cell? ⟨FB,2,none⟩=some (.slice (some ⟨gu,0,none⟩) s.uses.length cu):=by rw [←Al];exact vz.out.cell 2
    have nl1:(n:Int)<(s.uses.length:Int):=af;have hFu:¬FB=gu:=af;have huF:¬gu=FB:=af;have hFv:¬FB=gv:=af;have hvF:¬gv=FB:=af;have huv:¬gu=gv:=fun e=>qq (vz.out.rows.rows 0 _ _ rfl rfl) vz.out.vars gu (by rw [Al];rfl) (by rw [Xp,e];rfl)
    have hvu:¬gv=gu:=fun e=>huv e.symm
    have e2:wr.cell? ⟨gv,vv*4+2,none⟩=some (.bool s.vars[vv].taken):=Hcv.out 2 aj;have e3:wr.cell? ⟨gv,vv*4+3,none⟩=some (.bool s.vars[vv].set):=Hcv.out 3 aj;have f0v:=fvj (vv*4+2);have f1v:=fvj (vv*4+3);have Tw:∀b,bT s n vv fn b={s with uses:=s.uses.set n (vv:Int),vars:=s.vars.set vv {s.vars[vv] with taken:=s.vars[vv].taken||(s.vars[vv].fn !=fn),set:=s.vars[vv].set||b}}:=fun b=>by
     unfold bT;rw [Int.toNat_natCast,Int.toNat_natCast,sR _ _ xA]
    have HTK:=hid Tw;have Hgu:=hid Al;have Hgv:=hid Xp;clear Tw Al Xp vz;go_wp2;go_quiet (fail);rename_i nq;have hFq:=HF.out.later (HB.out.trans ((below_drewN wr nq).mono HB.out.size));have ajP:FP FB p c ns.length s W (wr.drewN nq):=(HF.out.fp (Below.refl FB W) (eo.refl FB W) (Nat.le_refl _)).later (HB.out.trans ((below_drewN wr nq).mono HB.out.size)) (by have:=HF.out.lt;omega);obtain⟨wq,Xy⟩:∃wq,wq=wr.drewN nq:=⟨_,rfl⟩;rw [←Xy] at hFq ajP;have HP1:Hid (FP FB p c ns.length {s with uses:=s.uses.set n (vv:Int)} W (wq.setCell ⟨gu,n,none⟩ (.int .i64 vv))∧cC FB p c ns.length (wq.setCell ⟨gu,n,none⟩ (.int .i64 vv)) {s with uses:=s.uses.set n (vv:Int)} v0 v1 v2 v3 v4 v5):=hid ⟨ajP.trans ((hFq.iR Hgu.out BQ (vv:Int)).fp ((Below.refl FB wq).setCell (p:=⟨gu,n,none⟩) (show FB≤gu by omega) _) (kR _ (nL (by have:=hFq.rows.rows 0 _ _ rfl rfl;rw [Hgu.out] at this;exact this))) ak),hFq.iR Hgu.out BQ (vv:Int)⟩;clear hFq ajP;have HVS:∀(w2:World) (s2:Fs) (x2 x':Vr) (j:Nat) (cv:Value),j<4→FP FB p c ns.length s2 W w2∧cC FB p c ns.length w2 s2 v0 v1 v2 v3 v4 v5→s2.vars.length=s.vars.length→s2.vars[vv]?=some x2→x'.cells=(x2.cells).set j cv→FP FB p c ns.length {s2 with vars:=s2.vars.set vv x'} W (w2.setCell ⟨gv,vv*4+j,none⟩ cv)∧cC FB p c ns.length (w2.setCell ⟨gv,vv*4+j,none⟩ cv) {s2 with vars:=s2.vars.set vv x'} v0 v1 v2 v3 v4 v5:=by
     intro w2 s2 x2 x' j cv hj hp hlen hx2 Jo;have hv2:vv<s2.vars.length:=by rw [hlen];exact xA
     rw [List.getElem?_eq_getElem hv2] at hx2;have hF2:=hp.2.xN (i:=vv) (j:=j) (by rw [hlen];exact Hgv.out) hv2 hj x' cv (by rw [Option.some.inj hx2];exact Jo);refine⟨hp.1.trans (hF2.fp ((Below.refl FB w2).setCell (p:=⟨gv,vv*4+j,none⟩) (show FB≤gv by omega) _) (kR _ fun cs t hh=>?_) ak),hF2⟩;obtain⟨cc,fz,h2⟩:=Lib.ownsRow_kind hp.2.vars gv (by rw [Hgv.out];rfl);rw [hh] at h2;cases h2;exact .inr rfl
    have HVS:=hid HVS;rw [Xy] at HP1;clear Xy;by_cases Cg:s.vars[vv].fn=fn
    ·rw [Cg] at e1;have hbf:(s.vars[vv].fn !=(fn:Int))=false:=by simp [Cg]
     cases set with
     |false=>
      have hst:Hid (bT s n vv fn false={s with uses:=s.uses.set n (vv:Int)}):=hid (by
       rw [HTK.out,hbf];simp only [Bool.or_false];congr 1;exact W8 xA)
      clear hbf;go_wp2
      try simp only [Exit.inBlock,Exit.then]
      refine bodyPost_ret (results_none rfl _ _ _) rfl ?_;refine⟨rfl, ?_⟩;rw [jc.out,hst.out];exact HP1.out.1
     |true=>
      have hst:Hid (bT s n vv fn true={s with uses:=s.uses.set n (vv:Int),vars:=s.vars.set vv {s.vars[vv] with set:=true}}):=hid (by
       rw [HTK.out,hbf];simp only [Bool.or_false,Bool.or_true])
      clear hbf;go_wp2
      try simp only [Exit.inBlock,Exit.then]
      refine bodyPost_ret (results_none rfl _ _ _) rfl ?_;refine⟨rfl, ?_⟩;rw [jc.out,hst.out];have eP:=(HVS.out _ {s with uses:=s.uses.set n (vv:Int)} s.vars[vv] {s.vars[vv] with set:=true} 3 (.bool true) aj HP1.out rfl (List.getElem?_eq_getElem xA) rfl).1
      first|exact eP|(rw [hp1] at eP;exact eP)
    ·have arF:¬(fn:Int)=s.vars[vv].fn:=fun e=>Cg e.symm
     have N1:(s.vars[vv].fn !=(fn:Int))=true:=by simpa using Cg
     cases set with
     |false=>
      have hst:Hid (bT s n vv fn false={s with uses:=s.uses.set n (vv:Int),vars:=s.vars.set vv {s.vars[vv] with taken:=true}}):=hid (by
       rw [HTK.out,N1];simp only [Bool.or_false,Bool.or_true])
      clear N1;go_wp2
      try simp only [Exit.inBlock,Exit.then]
      refine bodyPost_ret (results_none rfl _ _ _) rfl ?_;refine⟨rfl, ?_⟩;rw [jc.out,hst.out];have eP:=(HVS.out _ {s with uses:=s.uses.set n (vv:Int)} s.vars[vv] {s.vars[vv] with taken:=true} 2 (.bool true) aj HP1.out rfl (List.getElem?_eq_getElem xA) rfl).1
      first|exact eP|(rw [hp1] at eP;exact eP)
     |true=>
      have hst:Hid (bT s n vv fn true={s with uses:=s.uses.set n (vv:Int),vars:=(s.vars.set vv {s.vars[vv] with taken:=true}).set vv {s.vars[vv] with taken:=true,set:=true}}):=hid (by
       rw [HTK.out,N1,List.set_set];simp only [Bool.or_true])
      clear N1;go_wp2
      try simp only [Exit.inBlock,Exit.then]
      refine bodyPost_ret (results_none rfl _ _ _) rfl ?_;refine⟨rfl, ?_⟩;rw [jc.out,hst.out];have hq:=HVS.out _ {s with uses:=s.uses.set n (vv:Int)} s.vars[vv] {s.vars[vv] with taken:=true} 2 (.bool true) aj HP1.out rfl (List.getElem?_eq_getElem xA) rfl;have eP:=(HVS.out _ _ {s.vars[vv] with taken:=true} {s.vars[vv] with taken:=true,set:=true} 3 (.bool true) aj hq ak (by simp [xA]) rfl).1
      first|exact eP|(rw [hp1] at eP;exact eP)
end Go.Proofs.YtjchnliaglecoaaGreatDoor

/- A part of the proof. Conditions: none. -/
set_option maxRecDepth 100000
set_option maxHeartbeats 8000000
namespace Go.Proofs.YtjchnliaglecoaaGreatDoor
open Go Go.RowKit Go.Nodes
section
variable {FB:Nat} {p:Option Addr} {c L:Nat} {W:World} {s:Fs} {v0 v1 v2 v3 v4 v5:Value} {n up:Int}
structure jA (FB:Nat) (p:Option Addr) (c L:Nat) (s:Fs) (v0 v1 v2 v3 v4 v5:Value) (n up:Int) (WX:World) (f:Nat→Bool) (ca:Act) (w:World):Prop where
 below:Below FB WX w
 keep:eo FB WX w
 size:WX.heap.size≤w.heap.size
 len:51<ca.tmps.size
 heap:w.heap[FB]?=some (.cells #[.slice p L c,v0,v1,bif f 28 then ca.tmps.getD 29 undef else v2,bif f 32 then ca.tmps.getD 37 undef else v3,v4,v5,.int .i64 s.bE,.int .i64 s.e] 63 (0,0))
 rows:gh (FB+1) w [v1,bif f 10 then ca.tmps.getD 29 undef else v2,bif f 18 then ca.tmps.getD 37 undef else v3,v4,bif f 24 then ca.tmps.getD 43 undef else v5] [s.uses,bif f 10 then s.funcs++[n] else s.funcs,bif f 18 then s.cF++[up] else s.cF,s.seen,bif f 24 then s.many++[0] else s.many]
 vars:w.ownsRow (FB+1) 114 4 v0 s.vars.length (cx s.vars)
theorem upd_ne {f:Nat→Bool} {j k:Nat} (h:j≠k):(if j=k then true else f j)=f j:=if_neg h
theorem jA.put {WX w:World} {f:Nat→Bool} {ca:Act} (h:jA FB p c L s v0 v1 v2 v3 v4 v5 n up WX f ca w) {k:Nat} {d:Tmp} {v:Value} (hk:10≠k∧18≠k∧24≠k∧28≠k∧32≠k) (hd:d≠29∧d≠37∧d≠43):jA FB p c L s v0 v1 v2 v3 v4 v5 n up WX (fun j=>if j=k then true else f j) (ca.put (some d) v) w:=by
 obtain⟨k1,k2,k3,k4,k5⟩:=hk;obtain⟨d1,d2,d3⟩:=hd;refine⟨h.below,h.keep,h.size,by simpa [Act.put] using h.len, ?_, ?_,h.vars⟩
 ·simp only [upd_ne k4,upd_ne k5,Am.aR d1,Am.aR d2];exact h.heap
 ·simp only [upd_ne k1,upd_ne k2,upd_ne k3,Am.aR d1,Am.aR d2,Am.aR d3];exact h.rows
theorem jA.alloc {WX w:World} {f:Nat→Bool} {ca:Act} (h:jA FB p c L s v0 v1 v2 v3 v4 v5 n up WX f ca w) (IB:FB≤WX.heap.size) (o:Obj):jA FB p c L s v0 v1 v2 v3 v4 v5 n up WX f ca (w.alloc o):=by
 have hb:Below w.heap.size w (w.alloc o):=(Below.refl _ _).alloc (Nat.le_refl _) o;have hs:=h.size;exact⟨h.below.trans (hb.mono af),h.keep.trans (dH hb),Nat.le_trans hs hb.size,h.len,by rw [hb.block FB (Array.getElem?_eq_some_iff.1 h.heap).1];exact h.heap,h.rows.later hb,bR h.vars hb⟩
theorem jA.grow {WX w w':World} {f:Nat→Bool} {ca:Act} (h:jA FB p c L s v0 v1 v2 v3 v4 v5 n up WX f ca w) (IB:FB≤WX.heap.size) (j:Nat) {v v':Value} {l l':List Int} {xs:List Value} {ls:List (List Int)} (hr:gh (FB+1) w xs ls) (hj:xs[j]?=some v) (hl:ls[j]?=some l) (hg:w.grownBy w' v.ownBlock) (hown:Ints (FB+1) w' v' l') (vp:v'.ownBlock=v.ownBlock∨v'.ownBlock=some w.heap.size):
  Below FB WX w'∧eo FB WX w'∧WX.heap.size≤w'.heap.size∧w'.heap[FB]?=w.heap[FB]?∧gh (FB+1) w' (xs.set j v') (ls.set j l')∧w'.ownsRow (FB+1) 114 4 v0 s.vars.length (cx s.vars):=by
 have hI:=hr.rows j _ _ hj hl;have hne:=Dz hI h.heap aj;have o9:∀k,v.ownBlock=some k→FB≤k:=fun k hk=>by have:=(hI.lt k hk).1;omega
 refine⟨h.below.grown hg (by have:=h.size;omega) o9,h.keep.trans (qi hI hg),Nat.le_trans h.size hg.size,hg.block FB (Array.getElem?_eq_some_iff.1 h.heap).1 (fun e=>hne e.symm),hr.put j hj hg hown vp,h.vars.kept hg ?_⟩;exact Si
theorem jA.al2 {WX w w':World} {f:Nat→Bool} {ca:Act} {v':Value} (h:jA FB p c L s v0 v1 v2 v3 v4 v5 n up WX f ca w) (IB:FB≤WX.heap.size) (hf:f 10=false) (hf2:f 28=false) (hg:w.grownBy w' v2.ownBlock) (hown:Ints (FB+1) w' v' (s.funcs++[n])) (vp:v'.ownBlock=v2.ownBlock∨v'.ownBlock=some w.heap.size):
  jA FB p c L s v0 v1 v2 v3 v4 v5 n up WX (fun j=>if j=10 then true else f j) (ca.put (some 29) v') w':=by
 have hr:=h.rows;rw [hf] at hr;obtain⟨a1,a2,a3,a4,a5,a6⟩:=h.grow IB 1 hr rfl rfl hg hown vp;refine⟨a1,a2,a3,by simpa [Act.put] using h.len, ?_, ?_,a6⟩
 ·rw [a4,h.heap];simp only [upd_ne (show(28:Nat)≠10 by decide),upd_ne (show(32:Nat)≠10 by decide),hf2,cond_false,Am.aR (show(29:Tmp)≠37 by decide)];rfl
 ·simp only [upd_ne (show(18:Nat)≠10 by decide),upd_ne (show(24:Nat)≠10 by decide),if_true,cond_true,Am.aR (show(29:Tmp)≠37 by decide),Am.aR (show(29:Tmp)≠43 by decide),Am.fC (show 29<ca.tmps.size by have:=h.len;omega)];exact a5
theorem jA.al3 {WX w w':World} {f:Nat→Bool} {ca:Act} {v':Value} (h:jA FB p c L s v0 v1 v2 v3 v4 v5 n up WX f ca w) (IB:FB≤WX.heap.size) (hf:f 18=false) (hf2:f 32=false) (hg:w.grownBy w' v3.ownBlock) (hown:Ints (FB+1) w' v' (s.cF++[up])) (vp:v'.ownBlock=v3.ownBlock∨v'.ownBlock=some w.heap.size):
  jA FB p c L s v0 v1 v2 v3 v4 v5 n up WX (fun j=>if j=18 then true else f j) (ca.put (some 37) v') w':=by
 have hr:=h.rows;rw [hf] at hr;obtain⟨a1,a2,a3,a4,a5,a6⟩:=h.grow IB 2 hr rfl rfl hg hown vp;refine⟨a1,a2,a3,by simpa [Act.put] using h.len, ?_, ?_,a6⟩
 ·rw [a4,h.heap];simp only [upd_ne (show(28:Nat)≠18 by decide),upd_ne (show(32:Nat)≠18 by decide),hf2,cond_false,Am.aR (show(37:Tmp)≠29 by decide)];rfl
 ·simp only [upd_ne (show(10:Nat)≠18 by decide),upd_ne (show(24:Nat)≠18 by decide),if_true,cond_true,Am.aR (show(37:Tmp)≠29 by decide),Am.aR (show(37:Tmp)≠43 by decide),Am.fC (show 37<ca.tmps.size by have:=h.len;omega)];exact a5
theorem jA.al4 {WX w w':World} {f:Nat→Bool} {ca:Act} {v':Value} (h:jA FB p c L s v0 v1 v2 v3 v4 v5 n up WX f ca w) (IB:FB≤WX.heap.size) (hf:f 24=false) (hg:w.grownBy w' v5.ownBlock) (hown:Ints (FB+1) w' v' (s.many++[0])) (vp:v'.ownBlock=v5.ownBlock∨v'.ownBlock=some w.heap.size):
  jA FB p c L s v0 v1 v2 v3 v4 v5 n up WX (fun j=>if j=24 then true else f j) (ca.put (some 43) v') w':=by
 have hr:=h.rows;rw [hf] at hr;obtain⟨a1,a2,a3,a4,a5,a6⟩:=h.grow IB 4 hr rfl rfl hg hown vp;refine⟨a1,a2,a3,by simpa [Act.put] using h.len, ?_, ?_,a6⟩
 ·rw [a4,h.heap];simp only [upd_ne (show(28:Nat)≠24 by decide),upd_ne (show(32:Nat)≠24 by decide),Am.aR (show(43:Tmp)≠29 by decide),Am.aR (show(43:Tmp)≠37 by decide)]
 ·simp only [upd_ne (show(10:Nat)≠24 by decide),upd_ne (show(18:Nat)≠24 by decide),if_true,cond_true,Am.aR (show(43:Tmp)≠29 by decide),Am.aR (show(43:Tmp)≠37 by decide),Am.fC (show 43<ca.tmps.size by have:=h.len;omega)];exact a5
theorem kQ {w:World} {xs:List Value} {ls:List (List Int)} (h:gh (FB+1) w xs ls) (i:Nat) (x:Value):gh (FB+1) (w.setCell ⟨FB,i,none⟩ x) xs ls:=⟨h.len,fun k v l a b=>eL (h.rows k v l a b) _ af,h.apart⟩
theorem jA.al5 {WX w:World} {f:Nat→Bool} {ca:Act} (h:jA FB p c L s v0 v1 v2 v3 v4 v5 n up WX f ca w) {x:Value} (hx:ca.tmps.getD 29 undef=x) (v:Value):jA FB p c L s v0 v1 v2 v3 v4 v5 n up WX (fun j=>if j=28 then true else f j) (ca.put none v) (w.setCell ⟨FB,3,none⟩ x):=by
 refine⟨h.below.setCell (p:=⟨FB,3,none⟩) (Nat.le_refl _) _,h.keep.trans (ew 3 _),by simpa using h.size,h.len, ?_, ?_,h.vars.kept (dY w FB 3 x) (.inr (iL h.vars h.heap aj))⟩
 ·rw [cq h.heap _ _];simp only [upd_ne (show(32:Nat)≠28 by decide),if_true,cond_true,Act.put,hx];rfl
 ·simp only [upd_ne (show(10:Nat)≠28 by decide),upd_ne (show(18:Nat)≠28 by decide),upd_ne (show(24:Nat)≠28 by decide)];exact kQ h.rows 3 x
theorem jA.al6 {WX w:World} {f:Nat→Bool} {ca:Act} (h:jA FB p c L s v0 v1 v2 v3 v4 v5 n up WX f ca w) {x:Value} (hx:ca.tmps.getD 37 undef=x) (v:Value):jA FB p c L s v0 v1 v2 v3 v4 v5 n up WX (fun j=>if j=32 then true else f j) (ca.put none v) (w.setCell ⟨FB,4,none⟩ x):=by
 refine⟨h.below.setCell (p:=⟨FB,4,none⟩) (Nat.le_refl _) _,h.keep.trans (ew 4 _),by simpa using h.size,h.len, ?_, ?_,h.vars.kept (dY w FB 4 x) (.inr (iL h.vars h.heap aj))⟩
 ·rw [cq h.heap _ _];simp only [upd_ne (show(28:Nat)≠32 by decide),if_true,cond_true,Act.put,hx];rfl
 ·simp only [upd_ne (show(10:Nat)≠32 by decide),upd_ne (show(18:Nat)≠32 by decide),upd_ne (show(24:Nat)≠32 by decide)];exact kQ h.rows 4 x
theorem jA.done {WX w:World} {f:Nat→Bool} {ca:Act} (h:jA FB p c L s v0 v1 v2 v3 v4 v5 n up WX f ca w) (hall:∀i,i<33→f i=true):cC FB p c L (w.setCell ⟨FB,6,none⟩ (ca.tmps.getD 43 undef)) {s with funcs:=s.funcs++[n],cF:=s.cF++[up],many:=s.many++[0]} v0 v1 (ca.tmps.getD 29 undef) (ca.tmps.getD 37 undef) v4 (ca.tmps.getD 43 undef):=by
 have h1:=h.heap;have h2:=h.rows;rw [hall 28 aj,hall 32 aj] at h1;rw [hall 10 aj,hall 18 aj,hall 24 aj] at h2;refine⟨by rw [cq h1 _ _];rfl,kQ h2 6 _,h.vars.kept (dY w FB 6 _) (.inr (iL h.vars h1 aj))⟩
end
def Zv (FB N0:Nat) (v2 v3 v5:Value) (n up:Int):Nat→World→Value→Prop
 |0,w,v=>v=.pointer (some ⟨FB,0,none⟩)
 |1,w,v=>v=.pointer (some ⟨FB,0,none⟩)
 |2,w,v=>v=.pointer (some ⟨FB,0,none⟩)
 |3,w,v=>v=.pointer (some ⟨FB,0,none⟩)
 |4,w,v=>v=.pointer (some ⟨FB,0,none⟩)
 |5,w,v=>v=.pointer (some ⟨FB,1,none⟩)
 |6,w,v=>v=.pointer (some ⟨FB,3,none⟩)
 |7,w,v=>v=v2
 |8,w,v=>v=.int .i64 n
 |9,w,v=>∃U:Nat,v=.slice (some ⟨U,0,none⟩) 1 1∧N0≤U∧w.heap[U]?=some (.cells #[.int .i64 n] 3 (0,0))
 |10,w,v=>∃(a:Option Addr) (k1 k2:Nat),v=.slice a k1 k2
 |11,w,v=>v=.pointer (some ⟨FB,0,none⟩)
 |12,w,v=>v=.pointer (some ⟨FB,0,none⟩)
 |13,w,v=>v=.pointer (some ⟨FB,1,none⟩)
 |14,w,v=>v=.pointer (some ⟨FB,4,none⟩)
 |15,w,v=>v=v3
 |16,w,v=>v=.int .i64 up
 |17,w,v=>∃U:Nat,v=.slice (some ⟨U,0,none⟩) 1 1∧N0≤U∧w.heap[U]?=some (.cells #[.int .i64 up] 3 (0,0))
 |18,w,v=>∃(a:Option Addr) (k1 k2:Nat),v=.slice a k1 k2
 |19,w,v=>v=.pointer (some ⟨FB,0,none⟩)
 |20,w,v=>v=.pointer (some ⟨FB,0,none⟩)
 |21,w,v=>v=.pointer (some ⟨FB,6,none⟩)
 |22,w,v=>v=v5
 |23,w,v=>∃U:Nat,v=.slice (some ⟨U,0,none⟩) 1 1∧N0≤U∧w.heap[U]?=some (.cells #[.int .i64 0] 3 (0,0))
 |24,w,v=>∃(a:Option Addr) (k1 k2:Nat),v=.slice a k1 k2
 |25,w,v=>v=.pointer (some ⟨FB,0,none⟩)
 |26,w,v=>v=.pointer (some ⟨FB,1,none⟩)
 |27,w,v=>v=.pointer (some ⟨FB,3,none⟩)
 |28,w,v=>True
 |29,w,v=>v=.pointer (some ⟨FB,0,none⟩)
 |30,w,v=>v=.pointer (some ⟨FB,1,none⟩)
 |31,w,v=>v=.pointer (some ⟨FB,4,none⟩)
 |_,w,v=>True
theorem wp_skip {o:Oper} {ca:Act} {w w':World} {K:Act→World→Prop} {Q:Exit→Act→World→Prop} (h:(execOp ca.eval o).run Tryz.prog w=.ok .skip w') (hk:K (ca.put o.dst undef) w'):o.wp Tryz.prog ca w K Q:=by
 unfold Oper.wp;rw [h];exact hk
def zf (N0:Nat) (_:Nat) (w w':World):Prop:=∀g,N0≤g→g<w.heap.size→w'.heap[g]?=w.heap[g]?
theorem jR {N0 i:Nat} (w:World) (o:Obj):zf N0 i w (w.alloc o):=fun g _ h=>by
 exact((Below.refl w.heap.size w).alloc (Nat.le_refl _) o).block g h
theorem jS {N0 i:Nat} {w w':World} {v:Value} (hg:w.grownBy w' v.ownBlock) (hl:∀g,v.ownBlock=some g→g<N0):zf N0 i w w':=fun g h1 h2=>hg.block g h2 fun e=>by have:=hl g e.symm;omega
theorem qJ {FB N0 i k:Nat} (hF:FB<N0) (w:World) (x:Value):zf N0 i w (w.setCell ⟨FB,k,none⟩ x):=fun g h1 _=>Below.heap_setCell _ _ _ _ (show g≠FB by omega)
theorem NF {FB N0:Nat} {v2 v3 v5:Value} {n up:Int}:∀(i j:Nat) (w w':World) (v:Value),i≠j→(fun _ _=>false:Nat→Nat→Bool) i j=false→zf N0 i w w'→Zv FB N0 v2 v3 v5 n up j w v→Zv FB N0 v2 v3 v5 n up j w' v:=by
 intro i j w w' v _ _ hS h;unfold Zv at*;exact Sj
theorem jO {B:Nat} {w:World} {v:Value} {l:List Int} (h:Ints B w v l) {k:Nat} (hk:k≤l.length):∃sv sc,v=.slice sv l.length sc∧k≤sc∧sc≤maxLen∧Ints B w (.slice sv k sc) (l.take k):=by
 have hl:(l.take k).length=k:=pW;rcases h.2 with⟨h1,h2⟩|⟨g,cap,cur,hv,hg,hh,hn,hm,hsz,uV⟩
 ·exact QM
 ·refine⟨_,cap,hv,by omega,hm,by rw [hl];simp;omega,.inr ⟨g,cap,cur,by rw [hl],hg,hh,by rw [hl];omega,hm,hsz, ?_⟩⟩;rw [hl,List.map_take,←uV,List.take_take];congr 1;omega
theorem lu (ns:List Nd) (s:Fs) (n fn:Int):(cY ns s n fn).funcs=s.funcs:=by
 have key:∀t:Fs,t.funcs=s.funcs→(kD (if 200<(bY t fn).many.getD fn.toNat 0 then bB (bY t fn) n 2 else bY t fn) n fn).funcs=s.funcs:=fun t h=>by
  show(if 200<(bY t fn).many.getD fn.toNat 0 then bB (bY t fn) n 2 else bY t fn).funcs=s.funcs;split
  ·rw [(eR (bY t fn) n 2).2.2.1];exact h
  ·exact h
 unfold cY;simp only;split
 ·exact key _ (eR s n 110).2.2.1
 ·exact key _ rfl
def pX (FB:Nat) (p:Option Addr) (c:Nat) (ns:List Nd) (W0:World) (k q:Nat):Prop:=∀(fn:Nat) (loop:Bool) (W:World) (s:Fs),Qm FB p c ns.length W s→cN ns.length s→Below FB W0 W→fn<s.funcs.length→s.vars.length+wt ns q≤100000→s.funcs.length+wt ns q≤100000→
 Calls Tryz.prog 28 #[.pointer (some ⟨FB,0,none⟩),.int .i64 q,.int .i64 fn,.bool loop] W fun e' w'=>e'=.returned (.tuple #[])∧FP FB p c ns.length (aA ns k q fn loop s) W w'
theorem Jr {FB:Nat} {p:Option Addr} {c:Nat} {ns:List Nd} {W0 W:World} {s:Fs} {v0 v1 v2 v3 v4 v5:Value} (ht:Tree ns) (hF:cC FB p c ns.length W s v0 v1 v2 v3 v4 v5) (hi:cN ns.length s) (hN:ay W0 p ns) (bz:∀x∈ns,x.kids.length≤x.aP) (h0:W0.heap.size≤FB) (hb0:Below FB W0 W) (k n:Nat) (up:Int) (kU:n≤k) (hn:n<ns.length) (hk2:2≤(ax ns (n:Int)).length)
  (hsz:s.vars.length+wt ns n≤100000) (lK:s.funcs.length+wt ns n≤100000) (IH:∀q,q<n→pX FB p c ns W0 k q):
  Calls Tryz.prog 69 #[.pointer (some ⟨FB,0,none⟩),.int .i64 n,.int .i64 up] W fun e' w'=>e'=.returned (.tuple #[])∧FP FB p c ns.length (j9 ns (aA ns k) n up s) W w':=by
 have aq6:s.cF.length≤100000:=by rw [hi.cF];omega
 have auc:s.many.length≤100000:=by rw [hi.many];omega
 have ahy:s.funcs.length≤100000:=af;have aud:s.seen.length≤100000:=Nat.le_trans hi.few af;obtain⟨sv2,sc2,Sk⟩:∃sv sc,v2=.slice sv s.funcs.length sc:=by
  exact Sl
 obtain⟨sv4,sc4,QG⟩:∃sv sc,v4=.slice sv s.seen.length sc:=by
  rcases(hF.rows.rows 3 _ _ rfl rfl).2 with⟨e1,e2⟩|⟨g,cap,cur,e1,_⟩
  ·exact Fq
  ·exact⟨_,_,e1⟩
 have c3:W.cell? ⟨FB,3,none⟩=some (.slice sv2 s.funcs.length sc2):=by rw [←Sk];exact hF.cell 3
 have Sm:∀g,v2.ownBlock=some g→g<W.heap.size:=fun g e=>((hF.rows.rows 1 _ _ rfl rfl).lt g e).2
 have Sn:∀g,v3.ownBlock=some g→g<W.heap.size:=fun g e=>((hF.rows.rows 2 _ _ rfl rfl).lt g e).2
 have al7:∀g,v5.ownBlock=some g→g<W.heap.size:=fun g e=>((hF.rows.rows 4 _ _ rfl rfl).lt g e).2
 have hFN:FB<W.heap.size:=hF.lt;have DA:FB≤W.heap.size:=af;have AV:∀ca,51<ca.tmps.size→jA FB p c ns.length s v0 v1 v2 v3 v4 v5 n up W (fun _=>false) ca W.drew:=fun ca bf=>⟨(Below.refl _ _).drew,dH (Below.refl _ _).drew,Nat.le_refl _,bf,hF.heap,hF.rows.later (Below.refl _ _).drew,bR hF.vars (Below.refl _ _).drew⟩
 have HF:=hid hF;have HN:=hid hN;have HC:=hid bz;have Hi:=hid hi;have aq9:=hid QG;clear hF hN hi QG Sk bz;go_enter Tryz.func69,Tryz.ntmps69;go_wp2;refine wp_region_any ai ?_;refine Am.cJ _ 35 rfl ai ?_;simp only [List.take_succ_cons,List.take_zero];refine Am.cJ _ 34 rfl ai ?_;simp only [List.take_succ_cons,List.take_zero];refine Am.cJ _ 33 rfl ai ?_;simp only [List.take_succ_cons,List.take_zero];refine Am.eT (Φ:=Zv FB W.heap.size v2 v3 v5 (n:Int) up) (I:=jA FB p c ns.length s v0 v1 v2 v3 v4 v5 n up W) (S:=zf W.heap.size) ai ai (fun _ _=>false) (fun z=>by unfold Am.mj;exact List.all_eq_true.2 fun _ _=>rfl) NF ?_ ?_ _ (AV _ (Nat.le_of_ble_eq_true rfl))
 ·intro kq o ca w1 f ho hI NG NH ah K hK;have hfn:∀f,ca.eval (.func f)=.func (.func f) #[] #[]:=fun _=>rfl
  have hcs:∀v,ca.eval (.const v)=v:=fun _=>rfl
  rcases kq with _|_|_|_|_|_|_|_|_|_|_|_|_|_|_|_|_|_|_|_|_|_|_|_|_|_|_|_|_|_|_|_|_|kq
  ·exact vw
  ·exact vw
  ·exact vw
  ·exact vw
  ·cases ho;have aQ:=Am.lk 22 3 ah fun _=>rfl
   exact dJ
  ·cases ho;have aQ:=Am.lk 23 4 ah fun _=>rfl
   exact dJ
  ·cases ho;have aQ:=Am.lk 24 5 ah fun _=>rfl
   exact dJ
  ·cases ho;have aQ:=Am.lk 25 6 ah fun _=>rfl
   have hc3:w1.cell? ⟨FB,3,none⟩=some v2:=by
    have hf2:f 28=false:=NH 28 ai;exact DC
   exact Sq
  ·exact Sr
  ·cases ho;have aQ:=Am.lk 27 8 ah fun _=>rfl
   refine Am.aD rfl rfl (Am.aU (v:=.slice (some ⟨w1.heap.size,0,none⟩) 1 1) (w':=w1.alloc (.cells #[.int .i64 n] 3)) ?_ (hK _ _ ((hI.alloc DA _).put (k:=9) aj aj) (jR _ _) ⟨w1.heap.size,rfl,hI.size,heap_alloc_new _ _⟩));exact yC
  ·cases ho;have aQ:=Am.lk 26 7 ah fun _=>rfl
   have h28:∃U:Nat,(ca.tmps.getD 28 undef)=.slice (some ⟨U,0,none⟩) 1 1∧W.heap.size≤U∧w1.heap[U]?=some (.cells #[.int .i64 (n:Int)] 3 (0,0)):=Am.aV (j:=9) ah ai rfl rfl;obtain⟨U,eU,hN0,hU⟩:=h28;have hb':=Am.aS eU;have Ez:f 10=false:=NG;have hf2:f 28=false:=NH 28 ai;have EE:=hI.rows;rw [Ez] at EE;have hrow:=EE.rows 1 _ _ rfl rfl;obtain⟨iI,Ao,Ap,Aq,Ar⟩:=info_parts Tryz.rB;obtain⟨v',w',hr,g2,g3,g4⟩:=di (P:=Tryz.prog) w1 (FB+1) 26 26 3 iI (.int .i64 0) 1 8 Tryz.underlying26 Ao Ap Aq Ar rfl aj v2 s.funcs.length (s.funcs.map (Value.int .i64)) hrow ⟨U,0,none⟩ 1 1 aj [.int .i64 ((n:Int))] ak
    (fun j q hj=>by
     cases j with
     |zero=>simp at hj;subst hj;simp [Addr.add,World.cell?,hU]
     |succ j=>simp at hj) (fun q hq=>by simp at hq;subst hq;rfl) lf af F7
   have Lb:Ints (FB+1) w' v' (s.funcs++[(n:Int)]):=B9;obtain⟨sa,DD,DG,tH⟩:∃(a:Option Addr) (k1 k2:Nat),v'=.slice a k1 k2:=by
    exact zg
   refine Am.aD rfl rfl (Am.aU (v:=v') (w':=w') ?_ (hK _ _ (hI.al2 DA Ez hf2 g3 Lb g4) (jS g3 Sm) ⟨sa,DD,DG,tH⟩));exact zh
  ·exact vw
  ·cases ho;have aQ:=Am.lk 30 11 ah fun _=>rfl
   exact dJ
  ·cases ho;have aQ:=Am.lk 31 12 ah fun _=>rfl
   exact dJ
  ·cases ho;have aQ:=Am.lk 32 13 ah fun _=>rfl
   exact dJ
  ·cases ho;have aQ:=Am.lk 33 14 ah fun _=>rfl
   have hc4:w1.cell? ⟨FB,4,none⟩=some v3:=by
    have hf2:f 32=false:=NH 32 ai;exact DC
   exact Ss
  ·exact Su
  ·cases ho;have aQ:=Am.lk 35 16 ah fun _=>rfl
   refine Am.aD rfl rfl (Am.aU (v:=.slice (some ⟨w1.heap.size,0,none⟩) 1 1) (w':=w1.alloc (.cells #[.int .i64 up] 3)) ?_ (hK _ _ ((hI.alloc DA _).put (k:=17) aj aj) (jR _ _) ⟨w1.heap.size,rfl,hI.size,heap_alloc_new _ _⟩));exact yC
  ·cases ho;have aQ:=Am.lk 34 15 ah fun _=>rfl
   have h36:∃U:Nat,(ca.tmps.getD 36 undef)=.slice (some ⟨U,0,none⟩) 1 1∧W.heap.size≤U∧w1.heap[U]?=some (.cells #[.int .i64 up] 3 (0,0)):=Am.aV (j:=17) ah ai rfl rfl;obtain⟨U,eU,hN0,hU⟩:=h36;have hb':=Am.aS eU;have Ez:f 18=false:=NG;have hf2:f 32=false:=NH 32 ai;have EE:=hI.rows;rw [Ez] at EE;have hrow:=EE.rows 2 _ _ rfl rfl;obtain⟨iI,Ao,Ap,Aq,Ar⟩:=info_parts Tryz.rB;obtain⟨v',w',hr,g2,g3,g4⟩:=di (P:=Tryz.prog) w1 (FB+1) 26 26 3 iI (.int .i64 0) 1 8 Tryz.underlying26 Ao Ap Aq Ar rfl aj v3 s.cF.length (s.cF.map (Value.int .i64)) hrow ⟨U,0,none⟩ 1 1 aj [.int .i64 (up)] ak
    (fun j q hj=>by
     cases j with
     |zero=>simp at hj;subst hj;simp [Addr.add,World.cell?,hU]
     |succ j=>simp at hj) (fun q hq=>by simp at hq;subst hq;rfl) lf af F7
   have Lb:Ints (FB+1) w' v' (s.cF++[up]):=B9;obtain⟨sa,DD,DG,tH⟩:∃(a:Option Addr) (k1 k2:Nat),v'=.slice a k1 k2:=by
    exact zg
   refine Am.aD rfl rfl (Am.aU (v:=v') (w':=w') ?_ (hK _ _ (hI.al3 DA Ez hf2 g3 Lb g4) (jS g3 Sn) ⟨sa,DD,DG,tH⟩));exact zh
  ·exact vw
  ·cases ho;have aQ:=Am.lk 38 19 ah fun _=>rfl
   exact dJ
  ·cases ho;have aQ:=Am.lk 39 20 ah fun _=>rfl
   exact dJ
  ·cases ho;have aQ:=Am.lk 40 21 ah fun _=>rfl
   have hc6:w1.cell? ⟨FB,6,none⟩=some v5:=Ca;refine Am.rv rfl rfl (hK _ _ (hI.put aj aj) (fun _ _ _=>rfl) rfl) ?_;generalize ca.eval=ev at*;simp [go_sem,execOp,hfn,hcs,aQ,hc6]
  ·cases ho;refine Am.aD rfl rfl (Am.aU (v:=.slice (some ⟨w1.heap.size,0,none⟩) 1 1) (w':=w1.alloc (.cells #[.int .i64 0] 3)) ?_ (hK _ _ ((hI.alloc DA _).put (k:=23) aj aj) (jR _ _) ⟨w1.heap.size,rfl,hI.size,heap_alloc_new _ _⟩));exact zi
  ·cases ho;have aQ:=Am.lk 41 22 ah fun _=>rfl
   have h42:∃U:Nat,(ca.tmps.getD 42 undef)=.slice (some ⟨U,0,none⟩) 1 1∧W.heap.size≤U∧w1.heap[U]?=some (.cells #[.int .i64 0] 3 (0,0)):=Am.aV (j:=23) ah ai rfl rfl;obtain⟨U,eU,hN0,hU⟩:=h42;have hb':=Am.aS eU;have Ez:f 24=false:=NG;have EE:=hI.rows;rw [Ez] at EE;have hrow:=EE.rows 4 _ _ rfl rfl;obtain⟨iI,Ao,Ap,Aq,Ar⟩:=info_parts Tryz.rB;obtain⟨v',w',hr,g2,g3,g4⟩:=di (P:=Tryz.prog) w1 (FB+1) 26 26 3 iI (.int .i64 0) 1 8 Tryz.underlying26 Ao Ap Aq Ar rfl aj v5 s.many.length (s.many.map (Value.int .i64)) hrow ⟨U,0,none⟩ 1 1 aj [.int .i64 (0)] ak
    (fun j q hj=>by
     cases j with
     |zero=>simp at hj;subst hj;simp [Addr.add,World.cell?,hU]
     |succ j=>simp at hj) (fun q hq=>by simp at hq;subst hq;rfl) lf af F7
   have Lb:Ints (FB+1) w' v' (s.many++[0]):=B9;obtain⟨sa,DD,DG,tH⟩:∃(a:Option Addr) (k1 k2:Nat),v'=.slice a k1 k2:=by
    exact zg
   refine Am.aD rfl rfl (Am.aU (v:=v') (w':=w') ?_ (hK _ _ (hI.al4 DA Ez g3 Lb g4) (jS g3 al7) ⟨sa,DD,DG,tH⟩));exact zh
  ·cases ho;have aQ:=Am.lk 19 0 ah fun _=>rfl
   exact dJ
  ·cases ho;have aQ:=Am.lk 44 25 ah fun _=>rfl
   exact dJ
  ·cases ho;have aQ:=Am.lk 45 26 ah fun _=>rfl
   exact dJ
  ·cases ho;have aQ:=Am.lk 46 27 ah fun _=>rfl
   have h29:∃(a:Option Addr) (k1 k2:Nat),(ca.tmps.getD 29 undef)=.slice a k1 k2:=Am.aV (j:=10) ah ai rfl rfl;obtain⟨sa,DD,DG,tH⟩:=h29;have Zw:=Am.aS tH;have hfr:w1.frozen? ⟨FB,3,none⟩=false:=Cb;obtain⟨oc,hoc⟩:∃oc,w1.cell? ⟨FB,3,none⟩=some oc:=⟨_,by simp [World.cell?,hI.heap];rfl⟩;refine Am.aD rfl rfl (wp_skip (w':=w1.setCell ⟨FB,3,none⟩ (.slice sa DD DG)) ?_ (hK undef _ (hI.al5 tH undef) (qJ hFN _ _) trivial));exact DI
  ·cases ho;have aQ:=Am.lk 20 1 ah fun _=>rfl
   exact dJ
  ·cases ho;have aQ:=Am.lk 47 29 ah fun _=>rfl
   exact dJ
  ·cases ho;have aQ:=Am.lk 48 30 ah fun _=>rfl
   exact dJ
  ·cases ho;have aQ:=Am.lk 49 31 ah fun _=>rfl
   have h37:∃(a:Option Addr) (k1 k2:Nat),(ca.tmps.getD 37 undef)=.slice a k1 k2:=Am.aV (j:=18) ah ai rfl rfl;obtain⟨sa,DD,DG,tH⟩:=h37;have Zw:=Am.aS tH;have hfr:w1.frozen? ⟨FB,4,none⟩=false:=Cb;obtain⟨oc,hoc⟩:∃oc,w1.cell? ⟨FB,4,none⟩=some oc:=⟨_,by simp [World.cell?,hI.heap];rfl⟩;refine Am.aD rfl rfl (wp_skip (w':=w1.setCell ⟨FB,4,none⟩ (.slice sa DD DG)) ?_ (hK undef _ (hI.al6 tH undef) (qJ hFN _ _) trivial));exact DI
  ·simp at ho
 ·intro ca w5 f hI hall hd hs aT bp;have h29:∃(a:Option Addr) (k1 k2:Nat),ca.tmps.getD 29 undef=.slice a k1 k2:=aT 10 _ 29 rfl rfl (fun _=>rfl);have h37:∃(a:Option Addr) (k1 k2:Nat),ca.tmps.getD 37 undef=.slice a k1 k2:=aT 18 _ 37 rfl rfl (fun _=>rfl);obtain⟨a43,k43,l43,h43⟩:∃(a:Option Addr) (k1 k2:Nat),ca.tmps.getD 43 undef=.slice a k1 k2:=aT 24 _ 43 rfl rfl (fun _=>rfl);have Nt:ca.tmps.getD 21 undef=.pointer (some ⟨FB,0,none⟩):=aT 2 _ 21 rfl rfl (fun _=>rfl);have hdone:=hI.done hall;rw [h43] at hdone;have zj:FP FB p c ns.length (dV s n up) W (w5.setCell ⟨FB,6,none⟩ (.slice a43 k43 l43)):=hdone.fp (hI.below.setCell (p:=⟨FB,6,none⟩) (Nat.le_refl _) _) (hI.keep.trans (ew 6 _)) (by simpa using hI.size);have bf:=Am.bC hd hs bp;simp only [List.foldl_cons,List.foldl_nil,Nt,h43] at bf;generalize ca.tmps.getD 19 undef=x19 at*;generalize ca.tmps.getD 20 undef=x20 at*;generalize ca.tmps.getD 22 undef=x22 at*;generalize ca.tmps.getD 23 undef=x23 at*;generalize ca.tmps.getD 24 undef=x24 at*;generalize ca.tmps.getD 25 undef=x25 at*;generalize ca.tmps.getD 26 undef=x26 at*;generalize ca.tmps.getD 27 undef=x27 at*;generalize ca.tmps.getD 28 undef=x28 at*;generalize ca.tmps.getD 29 undef=x29 at*;generalize ca.tmps.getD 30 undef=x30 at*;generalize ca.tmps.getD 31 undef=x31 at*;generalize ca.tmps.getD 32 undef=x32 at*;generalize ca.tmps.getD 33 undef=x33 at*;generalize ca.tmps.getD 34 undef=x34 at*;generalize ca.tmps.getD 35 undef=x35 at*;generalize ca.tmps.getD 36 undef=x36 at*;generalize ca.tmps.getD 37 undef=x37 at*;generalize ca.tmps.getD 38 undef=x38 at*;generalize ca.tmps.getD 39 undef=x39 at*;generalize ca.tmps.getD 40 undef=x40 at*;generalize ca.tmps.getD 41 undef=x41 at*;generalize ca.tmps.getD 42 undef=x42 at*;generalize ca.tmps.getD 44 undef=x44 at*;generalize ca.tmps.getD 45 undef=x45 at*;generalize ca.tmps.getD 46 undef=x46 at*;generalize ca.tmps.getD 47 undef=x47 at*;generalize ca.tmps.getD 48 undef=x48 at*;generalize ca.tmps.getD 49 undef=x49 at*;clear Nt h43;subst bf;simp only [List.setIfInBounds_toArray,List.set_cons_succ,List.set_cons_zero];have c56:w5.cell? ⟨FB,6,none⟩=some v5:=Ca;have f56:w5.frozen? ⟨FB,6,none⟩=false:=Cb;have aX:Below W0.heap.size W0 w5:=(hb0.trans hI.below).mono h0;obtain⟨b,o,hp,bO,ct,aG,_,_,k2,_⟩:=bh HN.out hn;have k25:w5.cell? ⟨b,o+n*4+2,none⟩=some (.slice ns[n].kp ns[n].kids.length ns[n].aP):=(aX.cell (p:=⟨b,_,none⟩) bO).trans k2;have c50:w5.cell? ⟨FB,0,none⟩=some (.slice (some ⟨b,o,none⟩) ns.length c):=by simp [World.cell?,hI.heap,hp]
  have c55:w5.cell? ⟨FB,5,none⟩=some (.slice sv4 s.seen.length sc4):=by simp [World.cell?,hI.heap,aq9.out]
  have hbF:¬b=FB:=af;have hFb:¬FB=b:=af;have bW:ax ns (n:Int)=ns[n].kids:=iA;have F8:=HC.out ns[n] (List.getElem_mem hn);have jM:=bH ht (n:=(n:Int)) af;have fS:=cM ht n;have Aw:=gq ht.ahead (ax ns (n:Int));rw [bW] at jM fS Aw hk2;have kH:=hid bW;have n0:(0:Int)≤(n:Int):=af;have n1:(n:Int)<(ns.length:Int):=af;have Hnx:=hid ct;have Hf:=hid aG;clear ct bW k2 aG aX;generalize ns[n]=x at*;obtain⟨q,hq⟩:∃q,q=x.kids.length:=⟨_,rfl⟩;rw [←hq] at k25 F8 hk2 Aw;obtain⟨m,hm⟩:∃m,q=m+2:=⟨q - 2,by omega⟩;have j8:(q:Int) - 2=(m:Int):=af;have tF:(m:Int)≤(x.aP:Int):=af;have hq9:(q:Int)≤100000:=af;have hm4:(m:Int)≤100000:=af;have Yf:(q:Int) - 1=((m+1:Nat):Int):=af;have Hm:=hid hm;have Hq:=hid hq;have Iu:=hid jM;have Fp:=hid fS;have Hwl:=hid Aw;have yX:(2:Int)≤(q:Int):=af;clear hm hq jM fS hk2 Aw;obtain⟨w6,hw6⟩:∃w6,w6=w5.setCell ⟨FB,6,none⟩ (.slice a43 k43 l43):=⟨_,rfl⟩;rw [←hw6] at hdone zj;have HD:=hid hdone;have vz:=hid zj;have Hi1:=hid (n7 Hi.out (n:Int) up);have Hw6:=hid hw6;have je:=hid IH;have kj:=hid ht;clear hw6 IH ht AV Sm Sn al7 c3;clear hdone zj hI hall hd hs aT bp h29 h37;simp only [Am.gI];go_wp2;simp only [Am.gI];go_wp2;simp only [Am.gI];go_wp2;rw [←Hw6.out];go_loopw [71] (fun iv wr=>∃(j:Nat) (sj:Fs),iv=.int .i64 j∧j≤m∧Hid (FP FB p c ns.length sj W wr∧cN ns.length sj∧sj.vars.length≤s.vars.length+j∧sj.funcs.length=s.funcs.length+1∧cg ns (s.funcs.length:Int) (x.kids.take j) ((x.kids.take m).drop j) sj=cg ns (s.funcs.length:Int) [] (x.kids.take m) (dV s n up))) (fun iv _=>m - (intOf iv).toNat)
  case atStart=>exact⟨0,dV s n up,rfl,Nat.zero_le _,hid ⟨vz.out,Hi1.out.inv,Nat.le_refl _,by simp [dV],rfl⟩⟩
  case round=>
   obtain⟨j,sj,rfl,hj,hJ⟩:=hrel;obtain⟨tj,hIj,hvj,hfj,hPj⟩:=hJ.out;obtain⟨t0,t1,t2,t3,t4,t5,hfd⟩:=tj.Ak;have HFD:=hid hfd;have X1:=hid tj;have HIj:=hid hIj;have HPj:=hid hPj;have aX:Below W0.heap.size W0 wr:=(hb0.trans tj.below).mono h0;have LL:=hid aX;have e0:wr.cell? ⟨FB,0,none⟩=some (.slice (some ⟨b,o,none⟩) ns.length c):=by rw [←hp];exact hfd.cell 0
   clear hfd tj hIj hPj hJ;by_cases OU:j<m
   ·have ji:j<x.kids.length:=by have:=Hq.out;have:=Hm.out;omega
    obtain⟨bk,ok,eO,lg,fN⟩:=bQ Hf.out ji;have eA:=(LL.out.cell (p:=⟨bk,_,none⟩) lg).trans fN;have fR:x.kids.getD j 0=x.kids[j]:=Fu;have dA:=Iu.out x.kids[j] (List.getElem_mem ji);rw [fR] at eA;obtain⟨z,hz⟩:∃z:Nat,x.kids[j]=(z:Int):=⟨(x.kids[j]).toNat,by omega⟩;rw [hz] at dA eA;have hzl:z<ns.length:=af;obtain⟨b2,o2,Aj,_,hx2,_,_,d1',_,_⟩:=bh HN.out hzl;rw [hp] at Aj;cases Aj;have d1:=(LL.out.cell (p:=⟨b,_,none⟩) bO).trans d1';have htz:dS ns (z:Int)=ns[z].text.toList:=by unfold dS;rw [Int.toNat_natCast,hx2]
    have gM:x.kids.take (j+1)=x.kids.take j++[(z:Int)]:=EP;have oG:(x.kids.take m).drop j=(z:Int)::(x.kids.take m).drop (j+1):=by
     rw [List.drop_eq_getElem_cons pW,List.getElem_take,hz]
    have z0:(0:Int)≤(z:Int):=af;have z1:(z:Int)<(ns.length:Int):=af;have j0:(0:Int)≤(j:Int):=af;have j1:(j:Int)<(m:Int):=af;have j2:(j:Int)≤(x.aP:Int):=af;have j3:(j:Int)≤100000:=af;have Htz:=hid htz;have lR:=hid gM;have tD:=hid oG;have XG:=hid eO;obtain⟨F,hF⟩:∃F:Fs→Int→Fs,F=fun s m=>if dS ns (z:Int)==dS ns m then bB s (z:Int) 110 else s:=⟨_,rfl⟩
    have HFf:=hid hF;have Hd1:=hid d1';rw [eO];clear htz gM oG fR hx2 hz fN d1' eO hF;generalize ns[z].text=sz at*;go_wp2;go_loopw [80] (fun iv wr2=>∃(i:Nat) (sk:Fs),iv=.int .i64 i∧i≤j∧Hid (FP FB p c ns.length sk W wr2∧cN ns.length sk∧sk.vars.length=sj.vars.length∧sk.funcs.length=sj.funcs.length∧((x.kids.take j).drop i).foldl F sk=(x.kids.take j).foldl F sj)) (fun iv _=>j - (intOf iv).toNat)
    case atStart=>exact⟨0,sj,rfl,Nat.zero_le _,hid ⟨X1.out,HIj.out,rfl,rfl,rfl⟩⟩
    case round=>
     obtain⟨i,sk,rfl,xe,hK⟩:=hrel;obtain⟨hFk,hIk,ue,Xi,hKe⟩:=hK.out;obtain⟨r0,r1,r2,r3,r4,r5,gH⟩:=hFk.Ak;have X9:=hid gH;have HFk:=hid hFk;have HIk:=hid hIk;have HKe:=hid hKe;have HBk:=hid ((hb0.trans hFk.below).mono h0);have e0k:wr.cell? ⟨FB,0,none⟩=some (.slice (some ⟨b,o,none⟩) ns.length c):=by rw [←hp];exact gH.cell 0
     have d1k:=(HBk.out.cell (p:=⟨b,_,none⟩) bO).trans Hd1.out;have hsF:FB≤wr.heap.size:=by have:=gH.lt;omega
     clear gH hFk hIk hKe hK;by_cases Xk:i<j
     ·have ahA:i<x.kids.length:=by omega
      obtain⟨bk',ok',F9,NI,al8⟩:=bQ Hf.out ahA;rw [XG.out] at F9;cases F9;have hci:=(HBk.out.cell (p:=⟨bk,_,none⟩) NI).trans al8;have fR:x.kids.getD i 0=x.kids[i]:=by simp [List.getD,List.getElem?_eq_getElem ahA]
      have Ga:=Iu.out x.kids[i] (List.getElem_mem ahA);rw [fR] at hci;obtain⟨y,hy⟩:∃y:Nat,x.kids[i]=(y:Int):=⟨(x.kids[i]).toNat,by omega⟩;rw [hy] at Ga hci;have DJ:y<ns.length:=af;obtain⟨b3,o3,Xl,_,hx3,_,_,f1',_,_⟩:=bh HN.out DJ;rw [hp] at Xl;cases Xl;have f1:=(HBk.out.cell (p:=⟨b,_,none⟩) bO).trans f1';have hty:dS ns (y:Int)=ns[y].text.toList:=by unfold dS;rw [Int.toNat_natCast,hx3]
      have hdr:(x.kids.take j).drop i=(y:Int)::(x.kids.take j).drop (i+1):=by
       rw [List.drop_eq_getElem_cons pW,List.getElem_take,hy]
      have y0:(0:Int)≤(y:Int):=af;have y1:(y:Int)<(ns.length:Int):=af;have i0:(0:Int)≤(i:Int):=af;have i1:(i:Int)<(j:Int):=af;have hFy:F sk (y:Int)=if sz.toList==(ns[y].text).toList then bB sk (z:Int) 110 else sk:=by rw [HFf.out];show(if dS ns (z:Int)==dS ns (y:Int) then _ else _)=_;rw [Htz.out,hty]
      have HFy:=hid hFy;have Hdr:=hid hdr;clear hty hdr fR hx3 hy al8 f1' hFy NI;generalize ns[y].text=sy at*;cases he:(sz.toList==sy.toList) with
      |true=>
       have HE:=hid (HFy.out.trans (if_pos he));go_wp2;go_quiet (fail);rename_i nq;have HRq:=hid (X9.out.later (below_drewN wr nq));go_wp2_with (go_at_call 68;refine(yD HRq.out _ _).mono ?_);intro e w9 hh
       first|(subst hh;intro kJ)|(obtain⟨rfl,kJ⟩:=hh)
       have QH:=hid kJ;clear kJ;go_wp2;go_roundw
       case rel=>
        obtain⟨z1',_,z3',_,_,_⟩:=eR sk (z:Int) 110;exact⟨i+1,bB sk (z:Int) 110,by go_num,by omega,hid ⟨(HFk.out.later (below_drewN wr nq) hsF).trans QH.out,BX HIk.out _ _,by rw [z1'];exact ue,by rw [z3'];exact Xi,by rw [←HE.out,←HKe.out,Hdr.out];rfl⟩⟩
       case measure=>simp [intOf];omega
      |false=>
       have HE:=hid (HFy.out.trans (if_neg ni));go_wp2;go_quiet (fail);go_wp2;go_roundw
       case rel=>exact⟨i+1,sk,by go_num,by omega,hid ⟨HFk.out.later (below_drewN wr _) hsF,HIk.out,ue,Xi,by rw [←HKe.out,Hdr.out,List.foldl_cons,HE.out]⟩⟩
       case measure=>simp [intOf];omega
     ·obtain rfl:i=j:=by omega
      have al9:sk=(x.kids.take i).foldl F sj:=by rw [←HKe.out,List.drop_eq_nil_of_le pW];rfl
      have ari:=hid al9;clear al9;have nR:sk.vars.length≤100000:=by have:=Fp.out;have:=Hwl.out;have:=Hm.out;omega
      go_wp2_with (go_at_call 70;refine(Qy X9.out HIk.out HN.out h0 (hb0.trans HFk.out.below) z s.funcs.length hzl af nR).mono ?_);intro e w9 hh
      first|(subst hh;intro kJ)|(obtain⟨rfl,kJ⟩:=hh)
      have QH:=hid kJ;clear kJ;go_wp2;go_roundw
      case rel=>
       have hg:=jI HIk.out ns (z:Int) (s.funcs.length:Int) ⟨z0,z1⟩;refine⟨i+1,cY ns sk (z:Int) (s.funcs.length:Int),by go_num,by omega,hid ⟨HFk.out.trans QH.out,hg.inv,by have:=hg.v1;omega,by rw [lu];omega, ?_⟩⟩;rw [←HPj.out,tD.out,lR.out,ari.out,HFf.out];rfl
      case measure=>simp [intOf];omega
   ·obtain rfl:j=m:=by omega
    have hdone:sj=cg ns (s.funcs.length:Int) [] (x.kids.take j) (dV s n up):=by
     rw [←HPj.out,List.drop_eq_nil_of_le pW];rfl
    have ji:j+1<x.kids.length:=by have:=Hq.out;have:=Hm.out;omega
    obtain⟨bk,ok,eO,lg,fN⟩:=bQ Hf.out ji;have eA:=(LL.out.cell (p:=⟨bk,_,none⟩) lg).trans fN;have fR:x.kids.getD (j+1) 0=x.kids[j+1]:=Fu;have dA:=Iu.out x.kids[j+1] (List.getElem_mem ji);rw [fR] at eA;obtain⟨z,hz⟩:∃z:Nat,x.kids[j+1]=(z:Int):=⟨(x.kids[j+1]).toNat,by omega⟩;have nI:fV ns (x.kids.take (j+1))+wt ns z≤fV ns x.kids:=by have:=eB (ns:=ns) x.kids (j+1) ji;rw [hz] at this;simpa using this
    have hwt:=gq kj.out.ahead (x.kids.take (j+1));rw [List.length_take] at hwt;rw [hz] at dA eA;have hzl:z<ns.length:=af;have hg1:=lU ns (s.funcs.length:Int) (x.kids.take j) [] Hi1.out.inv (fun q hq=>by have:=Iu.out q (List.mem_of_mem_take hq);omega);rw [←hdone] at hg1;have hg2:=eI kj.out k z (s.funcs.length:Int) false sj af hzl HIj.out;have hgd:x.kids.getD (x.kids.length - 1) 0=(z:Int):=by rw [show x.kids.length - 1=j+1 by have:=Hq.out;have:=Hm.out;omega,fR,hz]
    have ama:j9 ns (aA ns k) n up s={aA ns k (z:Int) (s.funcs.length:Int) false sj with seen:=(aA ns k (z:Int) (s.funcs.length:Int) false sj).seen.take s.seen.length}:=by
     unfold j9;simp only;rw [kH.out,hgd,show x.kids.length - 2=j by have:=Hq.out;have:=Hm.out;omega,show({s with funcs:=s.funcs++[(n:Int)],cF:=s.cF++[up],many:=s.many++[0]}:Fs)=dV s n up from rfl,←hdone]
    have amb:=hid ama;obtain⟨s2,hs2⟩:∃s2,s2=aA ns k (z:Int) (s.funcs.length:Int) false sj:=⟨_,rfl⟩;have gZ:=je.out z af s.funcs.length false wr sj ⟨_,_,_,_,_,_,HFD.out⟩ HIj.out (hb0.trans X1.out.below) af wE wE;rw [←hs2] at amb hg2 gZ;have zk:=hid gZ;have Hg2:=hid hg2;have Hg1:=hid hg1;have j0:(0:Int)≤(j:Int):=af;have j1:((j+1:Nat):Int)<(q:Int):=Fa;have j4:(0:Int)≤((j+1:Nat):Int):=af;rw [eO];clear hdone fR hz nI hwt hg1 hg2 hgd ama hs2 gZ eO fN;go_wp2_with (go_at_call 28;refine(zk.out).mono ?_);intro e w9 hh
    first|(subst hh;intro kJ)|(obtain⟨rfl,kJ⟩:=hh)
    try rw [←hp] at kJ
    have QH:=hid kJ;obtain⟨r0,r1,r2,r3,r4,r5,gH⟩:=kJ.Ak;have hrow:=gH.rows.rows 3 _ _ rfl rfl;have hlen:s.seen.length≤s2.seen.length:=Nat.le_trans (Nat.le_trans (by simp [dV]) Hg1.out.seen) Hg2.out.seen;have X9:=hid gH;obtain⟨sv,sc,nR,alk,alm,QI⟩:=jO hrow hlen;have e5:w9.cell? ⟨FB,5,none⟩=some (.slice sv s2.seen.length sc):=by rw [←nR];exact gH.cell 5
    have f5:=gH.frozen 5;have hsi:(s.seen.length:Int)≤(sc:Int):=af;have hs0:(0:Int)≤(s.seen.length:Int):=af;have hs9:(s.seen.length:Int)≤100000:=af;have eP:=gH.Fv QI (by rw [nR];cases sv<;>rfl);have hfp:=hid (X1.out.trans (QH.out.trans (eP.fp ((Below.refl FB w9).setCell (p:=⟨FB,5,none⟩) (Nat.le_refl _) _) (ew 5 _) ak)));clear gH hrow kJ eP QI;go_wp2;go_end0;refine⟨rfl, ?_⟩;rw [amb.out];exact hfp.out
end Go.Proofs.YtjchnliaglecoaaGreatDoor

/- A part of the proof. Conditions: none. -/
set_option maxRecDepth 100000
set_option maxHeartbeats 8000000
namespace Go.Proofs.YtjchnliaglecoaaGreatDoor
open Go Go.RowKit Go.Nodes
theorem au (w:World) (o:Obj):Below w.heap.size w (w.alloc o):=(Below.refl _ _).alloc (Nat.le_refl _) o
theorem jt (w:World) (o:Obj) (m:Nat):Below w.heap.size w ((w.alloc o).drewN m):=(au w o).trans ((below_drewN (w.alloc o) m).mono (au w o).size)
theorem BA {FB c L m:Nat} {p:Option Addr} {s:Fs} {w w':World} {cs:Array Value} (h:FP FB p c L s ((w.alloc (.cells cs 56)).drewN m) w') (hF:FB<w.heap.size):w'.heap[w.heap.size]?=some (.cells cs 56 (0,0)):=
 h.keep w.heap.size cs 56 (heap_alloc_new w (.cells cs 56)) aj aj af
theorem tO {FB c L:Nat} {p:Option Addr} {s:Fs} {w w':World} {cs:Array Value} (h:FP FB p c L s (w.alloc (.cells cs 56)) w') (hF:FB<w.heap.size):w'.heap[w.heap.size]?=some (.cells cs 56 (0,0)):=
 h.keep w.heap.size cs 56 (heap_alloc_new w (.cells cs 56)) aj aj af
theorem dM (ns:List Nd) (k:Nat) (n fn:Int) (loop:Bool) (s:Fs):aA ns (k+1) n fn loop s=(if s.e≠0 then s else
  if aq ns n=17 then jq ns s n fn false
  else if aq ns n=11 then(if loop then s else bB s n 111)
  else if aq ns n=22 then j9 ns (aA ns k) n fn s
  else if aq ns n=4 then(if(aA ns k ((ax ns n).getD 1 0) fn loop s).e=0 then cY ns (aA ns k ((ax ns n).getD 1 0) fn loop s) n fn else aA ns k ((ax ns n).getD 1 0) fn loop s)
  else if aq ns n=5 then aA ns k ((ax ns n).getD 0 0) fn loop (cY ns s n fn)
  else if aq ns n=6 then aA ns k ((ax ns n).getD 1 0) fn loop (if aq ns ((ax ns n).getD 0 0)=17 then jq ns s ((ax ns n).getD 0 0) fn true else aA ns k ((ax ns n).getD 0 0) fn loop s)
  else if aq ns n=9 then aA ns k ((ax ns n).getD 1 0) fn true (aA ns k ((ax ns n).getD 0 0) fn loop s)
  else if aq ns n=3 then {((ax ns n).foldl (fun s q=>aA ns k q fn loop s) s) with seen:=((ax ns n).foldl (fun s q=>aA ns k q fn loop s) s).seen.take s.seen.length} else((ax ns n).foldl (fun s q=>aA ns k q fn loop s) s)):=rfl
section
variable {FB:Nat} {p:Option Addr} {c:Nat} {ns:List Nd} {W0:World}
theorem Ql (hN:ay W0 p ns) (h0:W0.heap.size≤FB) (k n:Nat) (hn:n<ns.length) (fn:Nat) (loop:Bool) (W:World) (s:Fs) (hf:Qm FB p c ns.length W s) (hb0:Below FB W0 W) (he:¬s.e=0):
  Calls Tryz.prog 28 #[.pointer (some ⟨FB,0,none⟩),.int .i64 n,.int .i64 fn,.bool loop] W fun e' w'=>e'=.returned (.tuple #[])∧FP FB p c ns.length (aA ns (k+1) n fn loop s) W w':=by
 have hres:aA ns (k+1) n fn loop s=s:=by unfold aA;rw [if_pos he]
 rw [hres];obtain⟨v0,v1,v2,v3,v4,v5,hF⟩:=hf;obtain⟨b,o,hp,bO,ct,aG,q0,q1,q2,q3⟩:=bh hN hn;have aX:=hb0.mono h0;have k0:=(aX.cell (p:=⟨b,_,none⟩) bO).trans q0;have k1:=(aX.cell (p:=⟨b,_,none⟩) bO).trans q1;have k2:=(aX.cell (p:=⟨b,_,none⟩) bO).trans q2;have k3:=(aX.cell (p:=⟨b,_,none⟩) bO).trans q3;have c0:W.cell? ⟨FB,0,none⟩=some (.slice (some ⟨b,o,none⟩) ns.length c):=iG;have c8:W.cell? ⟨FB,8,none⟩=some (.int .i64 s.e):=hF.cell 8;have pq:FB≤W.heap.size:=tP;have sg:=hF.lt;have Fk:=hid (hF.fp (Below.refl FB W) (eo.refl FB W) (Nat.le_refl _));have n0:(0:Int)≤(n:Int):=af;have n1:(n:Int)<(ns.length:Int):=af;have cD:=aL ct;have bW:ax ns (n:Int)=ns[n].kids:=iA;have pz:=hid cD;have kH:=hid bW;have cH:=hid aG;have HN:=hid hN;have HF:=hid hF;have mD:=hid hb0;have EB:(ns.length:Int)≤(ns.length:Int):=Int.le_refl _;clear q0 q1 q2 q3 aX hF ct cD bW aG hN hb0 EB;generalize ns[n]=x at*;clear hres;go_enter Tryz.func28,Tryz.ntmps28;go_wp2
 try simp only [Exit.inBlock,Exit.then]
 refine bodyPost_ret (results_none rfl _ _ _) rfl ?_;refine⟨rfl, ?_⟩;have eP:=Fk.out.later (au W (.cells #[.int .i64 x.kind,.string x.text,.slice x.kp x.kids.length x.aP,.int .i64 x.place] 56)) pq;exact uY
theorem Qn (ht:Tree ns) (hN:ay W0 p ns) (bz:∀x∈ns,x.kids.length≤x.aP) (h0:W0.heap.size≤FB) (k n:Nat) (kU:n≤k) (hn:n<ns.length) (IH:∀q,q<n→pX FB p c ns W0 k q) (az:aq ns (n:Int)=17) (fn:Nat) (loop:Bool) (W:World) (s:Fs) (hf:Qm FB p c ns.length W s) (hi:cN ns.length s) (hb0:Below FB W0 W) (hfn:fn<s.funcs.length) (hsz:s.vars.length+wt ns n≤100000) (lK:s.funcs.length+wt ns n≤100000) (he:s.e=0):
  Calls Tryz.prog 28 #[.pointer (some ⟨FB,0,none⟩),.int .i64 n,.int .i64 fn,.bool loop] W fun e' w'=>e'=.returned (.tuple #[])∧FP FB p c ns.length (aA ns (k+1) n fn loop s) W w':=by
 have hres:aA ns (k+1) n fn loop s=jq ns s n fn false:=by
  rw [dM,if_neg ni];rw [if_pos az]
 rw [hres];obtain⟨v0,v1,v2,v3,v4,v5,hF⟩:=hf;obtain⟨b,o,hp,bO,ct,aG,q0,q1,q2,q3⟩:=bh hN hn;have aX:=hb0.mono h0;have k0:=(aX.cell (p:=⟨b,_,none⟩) bO).trans q0;have k1:=(aX.cell (p:=⟨b,_,none⟩) bO).trans q1;have k2:=(aX.cell (p:=⟨b,_,none⟩) bO).trans q2;have k3:=(aX.cell (p:=⟨b,_,none⟩) bO).trans q3;have c0:W.cell? ⟨FB,0,none⟩=some (.slice (some ⟨b,o,none⟩) ns.length c):=iG;have c8:W.cell? ⟨FB,8,none⟩=some (.int .i64 s.e):=hF.cell 8;have pq:FB≤W.heap.size:=tP;have sg:=hF.lt;have Fk:=hid (hF.fp (Below.refl FB W) (eo.refl FB W) (Nat.le_refl _));have n0:(0:Int)≤(n:Int):=af;have n1:(n:Int)<(ns.length:Int):=af;have cD:=aL ct;have bW:ax ns (n:Int)=ns[n].kids:=iA;have pz:=hid cD;have kH:=hid bW;have cH:=hid aG;have HN:=hid hN;have HF:=hid hF;have mD:=hid hb0;have EB:(ns.length:Int)≤(ns.length:Int):=Int.le_refl _;clear q0 q1 q2 q3 aX hF ct cD bW aG hN hb0 EB;have Qo:1≤wt ns n:=fQ ht.ahead n;rw [pz.out] at az;rw [he] at c8;have Hi:=hid hi;have kj:=hid ht;have je:=hid IH;have kI:=hid bz;clear hres hi ht IH bz;generalize ns[n]=x at*;obtain⟨xk,xt,xp,xc,dx,eY⟩:=x;simp only at az k0 k1 k2 k3;subst az;go_enter Tryz.func28,Tryz.ntmps28;go_wp2_with (go_at_call 67;refine(ac6 (HF.out.later (au W _)) Hi.out HN.out h0 (mD.out.trans ((au W _).mono pq)) n fn hn af false).mono ?_);exact Jq
theorem Qp (ht:Tree ns) (hN:ay W0 p ns) (bz:∀x∈ns,x.kids.length≤x.aP) (h0:W0.heap.size≤FB) (k n:Nat) (kU:n≤k) (hn:n<ns.length) (IH:∀q,q<n→pX FB p c ns W0 k q) (az:aq ns (n:Int)=22) (fn:Nat) (loop:Bool) (W:World) (s:Fs) (hf:Qm FB p c ns.length W s) (hi:cN ns.length s) (hb0:Below FB W0 W) (hfn:fn<s.funcs.length) (hsz:s.vars.length+wt ns n≤100000) (lK:s.funcs.length+wt ns n≤100000) (he:s.e=0):
  Calls Tryz.prog 28 #[.pointer (some ⟨FB,0,none⟩),.int .i64 n,.int .i64 fn,.bool loop] W fun e' w'=>e'=.returned (.tuple #[])∧FP FB p c ns.length (aA ns (k+1) n fn loop s) W w':=by
 have hres:aA ns (k+1) n fn loop s=j9 ns (aA ns k) n fn s:=by
  exact Qq
 rw [hres];obtain⟨v0,v1,v2,v3,v4,v5,hF⟩:=hf;obtain⟨b,o,hp,bO,ct,aG,q0,q1,q2,q3⟩:=bh hN hn;have aX:=hb0.mono h0;have k0:=(aX.cell (p:=⟨b,_,none⟩) bO).trans q0;have k1:=(aX.cell (p:=⟨b,_,none⟩) bO).trans q1;have k2:=(aX.cell (p:=⟨b,_,none⟩) bO).trans q2;have k3:=(aX.cell (p:=⟨b,_,none⟩) bO).trans q3;have c0:W.cell? ⟨FB,0,none⟩=some (.slice (some ⟨b,o,none⟩) ns.length c):=iG;have c8:W.cell? ⟨FB,8,none⟩=some (.int .i64 s.e):=hF.cell 8;have pq:FB≤W.heap.size:=tP;have sg:=hF.lt;have Fk:=hid (hF.fp (Below.refl FB W) (eo.refl FB W) (Nat.le_refl _));have n0:(0:Int)≤(n:Int):=af;have n1:(n:Int)<(ns.length:Int):=af;have cD:=aL ct;have bW:ax ns (n:Int)=ns[n].kids:=iA;have pz:=hid cD;have kH:=hid bW;have cH:=hid aG;have HN:=hid hN;have HF:=hid hF;have mD:=hid hb0;have EB:(ns.length:Int)≤(ns.length:Int):=Int.le_refl _;clear q0 q1 q2 q3 aX hF ct cD bW aG hN hb0 EB;have Qo:1≤wt ns n:=fQ ht.ahead n;rw [pz.out] at az;rw [he] at c8;have Hi:=hid hi;have kj:=hid ht;have je:=hid IH;have kI:=hid bz;clear hres hi ht IH bz;have hk2:=eC kj.out hn (pz.out.trans az) ak;have Hk2:=hid hk2;clear hk2;generalize ns[n]=x at*;obtain⟨xk,xt,xp,xc,dx,eY⟩:=x;simp only at az k0 k1 k2 k3;subst az;go_enter Tryz.func28,Tryz.ntmps28;go_wp2_with (go_at_call 69;refine(Jr kj.out (HF.out.later (au W _)) Hi.out HN.out kI.out h0 (mD.out.trans ((au W _).mono pq)) k n (fn:Int) kU hn Hk2.out hsz lK je.out).mono ?_);exact Jq
theorem Qr (ht:Tree ns) (hN:ay W0 p ns) (bz:∀x∈ns,x.kids.length≤x.aP) (h0:W0.heap.size≤FB) (k n:Nat) (kU:n≤k) (hn:n<ns.length) (IH:∀q,q<n→pX FB p c ns W0 k q) (az:aq ns (n:Int)=11) (fn:Nat) (loop:Bool) (W:World) (s:Fs) (hf:Qm FB p c ns.length W s) (hi:cN ns.length s) (hb0:Below FB W0 W) (hfn:fn<s.funcs.length) (hsz:s.vars.length+wt ns n≤100000) (lK:s.funcs.length+wt ns n≤100000) (he:s.e=0):
  Calls Tryz.prog 28 #[.pointer (some ⟨FB,0,none⟩),.int .i64 n,.int .i64 fn,.bool loop] W fun e' w'=>e'=.returned (.tuple #[])∧FP FB p c ns.length (aA ns (k+1) n fn loop s) W w':=by
 have hres:aA ns (k+1) n fn loop s=(if loop then s else bB s n 111):=by
  exact Qs
 rw [hres];obtain⟨v0,v1,v2,v3,v4,v5,hF⟩:=hf;obtain⟨b,o,hp,bO,ct,aG,q0,q1,q2,q3⟩:=bh hN hn;have aX:=hb0.mono h0;have k0:=(aX.cell (p:=⟨b,_,none⟩) bO).trans q0;have k1:=(aX.cell (p:=⟨b,_,none⟩) bO).trans q1;have k2:=(aX.cell (p:=⟨b,_,none⟩) bO).trans q2;have k3:=(aX.cell (p:=⟨b,_,none⟩) bO).trans q3;have c0:W.cell? ⟨FB,0,none⟩=some (.slice (some ⟨b,o,none⟩) ns.length c):=iG;have c8:W.cell? ⟨FB,8,none⟩=some (.int .i64 s.e):=hF.cell 8;have pq:FB≤W.heap.size:=tP;have sg:=hF.lt;have Fk:=hid (hF.fp (Below.refl FB W) (eo.refl FB W) (Nat.le_refl _));have n0:(0:Int)≤(n:Int):=af;have n1:(n:Int)<(ns.length:Int):=af;have cD:=aL ct;have bW:ax ns (n:Int)=ns[n].kids:=iA;have pz:=hid cD;have kH:=hid bW;have cH:=hid aG;have HN:=hid hN;have HF:=hid hF;have mD:=hid hb0;have EB:(ns.length:Int)≤(ns.length:Int):=Int.le_refl _;clear q0 q1 q2 q3 aX hF ct cD bW aG hN hb0 EB;rw [pz.out] at az;rw [he] at c8;clear hres hi ht IH bz;generalize ns[n]=x at*;obtain⟨xk,xt,xp,xc,dx,eY⟩:=x;simp only at az k0 k1 k2 k3;subst az;cases loop with
 |true=>
  go_enter Tryz.func28,Tryz.ntmps28;go_wp2;go_end0;refine⟨rfl, ?_⟩;have eP:=(Fk.out.later (au W (.cells #[.int .i64 11,.string xt,.slice xp dx.length xc,.int .i64 eY] 56)) pq);exact uY
 |false=>
  go_enter Tryz.func28,Tryz.ntmps28;go_wp2_with (go_at_call 68;refine(yD (HF.out.later (au W _)) _ _).mono ?_);exact Jq
theorem X4 (ht:Tree ns) (hN:ay W0 p ns) (bz:∀x∈ns,x.kids.length≤x.aP) (h0:W0.heap.size≤FB) (k n:Nat) (kU:n≤k) (hn:n<ns.length) (IH:∀q,q<n→pX FB p c ns W0 k q) (az:aq ns (n:Int)=4) (fn:Nat) (loop:Bool) (W:World) (s:Fs) (hf:Qm FB p c ns.length W s) (hi:cN ns.length s) (hb0:Below FB W0 W) (hfn:fn<s.funcs.length) (hsz:s.vars.length+wt ns n≤100000) (lK:s.funcs.length+wt ns n≤100000) (he:s.e=0):
  Calls Tryz.prog 28 #[.pointer (some ⟨FB,0,none⟩),.int .i64 n,.int .i64 fn,.bool loop] W fun e' w'=>e'=.returned (.tuple #[])∧FP FB p c ns.length (aA ns (k+1) n fn loop s) W w':=by
 have hres:aA ns (k+1) n fn loop s=(if(aA ns k ((ax ns (n:Int)).getD 1 0) fn loop s).e=0 then cY ns (aA ns k ((ax ns (n:Int)).getD 1 0) fn loop s) n fn else aA ns k ((ax ns (n:Int)).getD 1 0) fn loop s):=by
  exact Qt
 obtain⟨v0,v1,v2,v3,v4,v5,hF⟩:=hf;obtain⟨b,o,hp,bO,ct,aG,q0,q1,q2,q3⟩:=bh hN hn;have aX:=hb0.mono h0;have k0:=(aX.cell (p:=⟨b,_,none⟩) bO).trans q0;have k1:=(aX.cell (p:=⟨b,_,none⟩) bO).trans q1;have k2:=(aX.cell (p:=⟨b,_,none⟩) bO).trans q2;have k3:=(aX.cell (p:=⟨b,_,none⟩) bO).trans q3;have c0:W.cell? ⟨FB,0,none⟩=some (.slice (some ⟨b,o,none⟩) ns.length c):=iG;have c8:W.cell? ⟨FB,8,none⟩=some (.int .i64 s.e):=hF.cell 8;have pq:FB≤W.heap.size:=tP;have sg:=hF.lt;have Fk:=hid (hF.fp (Below.refl FB W) (eo.refl FB W) (Nat.le_refl _));have n0:(0:Int)≤(n:Int):=af;have n1:(n:Int)<(ns.length:Int):=af;have cD:=aL ct;have bW:ax ns (n:Int)=ns[n].kids:=iA;have pz:=hid cD;have kH:=hid bW;have cH:=hid aG;have HN:=hid hN;have HF:=hid hF;have mD:=hid hb0;have EB:(ns.length:Int)≤(ns.length:Int):=Int.le_refl _;clear q0 q1 q2 q3 aX hF ct cD bW aG hN hb0 EB;have fS:=cM ht n;rw [kH.out] at fS;have jM:=bH ht (n:=(n:Int)) af;rw [kH.out] at jM;have hk2:=eC ht hn az ak;rw [kH.out] at hk2;have fq:1<ns[n].kids.length:=af;obtain⟨AO,Nf,fX,si,jN⟩:=bQ cH.out fq;have yE:ns[n].kids.getD 1 0=ns[n].kids[1]:=Qu;have ep:=jM ns[n].kids[1] (List.getElem_mem fq);rw [yE] at jN;obtain⟨z1,hz1⟩:∃z:Nat,ns[n].kids[1]=(z:Int):=⟨(ns[n].kids[1]).toNat,by omega⟩;rw [hz1] at ep jN;have iH:ns[n].kids.getD 1 0=(z1:Int):=yE.trans hz1;have agK:z1<ns.length:=af;have qU:=mD.out.mono h0;have kc1:=(qU.cell (p:=⟨AO,_,none⟩) si).trans jN;have mb1:AO<W.heap.size:=af;rw [kH.out,iH] at hres;have Aw:=gq ht.ahead (ax ns (n:Int));have xg:=fQ ht.ahead n;have oH:=eB (ns:=ns) ns[n].kids 1 fq;rw [hz1] at oH;have hza:wt ns z1+1≤wt ns n:=by have e:((z1:Int)).toNat=z1:=rfl;rw [e] at oH;omega
 have Qv:=eI ht k z1 (fn:Int) loop s af agK hi;rw [pz.out] at az;rw [he] at c8;have Hi:=hid hi;have kj:=hid ht;have je:=hid IH;have kI:=hid bz;have Ir:=hid Qv;have jc:=hid hres;clear hres hi ht IH bz Qv fS jM Aw oH qU yE hz1 iH fq;have Ng:=hid jN;clear jN;generalize ns[n]=x at*;obtain⟨xk,xt,xp,xc,dx,eY⟩:=x;simp only at az k0 k1 k2 k3 fX;subst az;obtain⟨xl,xX⟩:∃xl,xl=dx.length:=⟨_,rfl⟩;simp only at hk2;rw [←xX] at k2 hk2;have hx0:(0:Int)<(xl:Int):=af;have hx1:(1:Int)<(xl:Int):=af;rw [fX] at k2;clear xX fX;go_enter Tryz.func28,Tryz.ntmps28;go_wp2_with (go_at_call 28;refine(je.out z1 af fn loop _ _ ⟨_,_,_,_,_,_,HF.out.later (au W _)⟩ Hi.out (mD.out.trans ((au W _).mono pq)) hfn af af).mono ?_);intro e w9 hh
 first|(subst hh;intro fE)|(obtain⟨rfl,fE⟩:=hh)
 try rw [←hp] at fE
 obtain⟨r0,r1,r2,r3,r4,r5,nt⟩:=fE.Ak;have Dd:=hid nt;have Fl:=hid fE;have De:=tO fE sg;have bx2:w9.cell? ⟨W.heap.size,2,none⟩=some (.slice (some ⟨AO,Nf,none⟩) xl xc):=BB;have X5:w9.cell? ⟨FB,0,none⟩=some (.slice (some ⟨b,o,none⟩) ns.length c):=Fm;have Qw:w9.cell? ⟨FB,8,none⟩=some (.int .i64 (aA ns k (z1:Int) (fn:Int) loop s).e):=nt.cell 8;have lO:=(mD.out.trans ((au W _).mono pq)).trans fE.below;have Qx:=((lO.mono h0).cell (p:=⟨AO,_,none⟩) si).trans Ng.out;have Df:=hid lO;clear nt fE De lO;by_cases hs1:(aA ns k (z1:Int) (fn:Int) loop s).e=0
 ·have pY:=jc.out.trans (if_pos hs1);have tQ:=hid pY;clear pY;have hv4:=Ir.out.v1;have hf4:=Ir.out.f0;rw [hs1] at Qw;go_wp2_with (go_at_call 70;refine(Qy Dd.out Ir.out.inv HN.out h0 Df.out n fn hn af af).mono ?_);intro e w8 hh
  first|(subst hh;intro oZ)|(obtain⟨rfl,oZ⟩:=hh)
  try rw [←hp] at oZ
  have Nh:=hid oZ;clear oZ;go_wp2;go_end0;refine⟨rfl, ?_⟩;have eP:=(Fk.out.later (au W _) pq).trans Fl.out|>.trans Nh.out
  rw [tQ.out];exact uY
 ·have pY:=jc.out.trans (if_neg hs1);have tQ:=hid pY;clear pY;go_wp2;go_end0;refine⟨rfl, ?_⟩;have eP:=(Fk.out.later (au W _) pq).trans Fl.out;rw [tQ.out];exact uY
theorem X6 (ht:Tree ns) (hN:ay W0 p ns) (bz:∀x∈ns,x.kids.length≤x.aP) (h0:W0.heap.size≤FB) (k n:Nat) (kU:n≤k) (hn:n<ns.length) (IH:∀q,q<n→pX FB p c ns W0 k q) (az:aq ns (n:Int)=5) (fn:Nat) (loop:Bool) (W:World) (s:Fs) (hf:Qm FB p c ns.length W s) (hi:cN ns.length s) (hb0:Below FB W0 W) (hfn:fn<s.funcs.length) (hsz:s.vars.length+wt ns n≤100000) (lK:s.funcs.length+wt ns n≤100000) (he:s.e=0):
  Calls Tryz.prog 28 #[.pointer (some ⟨FB,0,none⟩),.int .i64 n,.int .i64 fn,.bool loop] W fun e' w'=>e'=.returned (.tuple #[])∧FP FB p c ns.length (aA ns (k+1) n fn loop s) W w':=by
 have hres:aA ns (k+1) n fn loop s=aA ns k ((ax ns (n:Int)).getD 0 0) fn loop (cY ns s n fn):=by
  exact Qz
 obtain⟨v0,v1,v2,v3,v4,v5,hF⟩:=hf;obtain⟨b,o,hp,bO,ct,aG,q0,q1,q2,q3⟩:=bh hN hn;have aX:=hb0.mono h0;have k0:=(aX.cell (p:=⟨b,_,none⟩) bO).trans q0;have k1:=(aX.cell (p:=⟨b,_,none⟩) bO).trans q1;have k2:=(aX.cell (p:=⟨b,_,none⟩) bO).trans q2;have k3:=(aX.cell (p:=⟨b,_,none⟩) bO).trans q3;have c0:W.cell? ⟨FB,0,none⟩=some (.slice (some ⟨b,o,none⟩) ns.length c):=iG;have c8:W.cell? ⟨FB,8,none⟩=some (.int .i64 s.e):=hF.cell 8;have pq:FB≤W.heap.size:=tP;have sg:=hF.lt;have Fk:=hid (hF.fp (Below.refl FB W) (eo.refl FB W) (Nat.le_refl _));have n0:(0:Int)≤(n:Int):=af;have n1:(n:Int)<(ns.length:Int):=af;have cD:=aL ct;have bW:ax ns (n:Int)=ns[n].kids:=iA;have pz:=hid cD;have kH:=hid bW;have cH:=hid aG;have HN:=hid hN;have HF:=hid hF;have mD:=hid hb0;have EB:(ns.length:Int)≤(ns.length:Int):=Int.le_refl _;clear q0 q1 q2 q3 aX hF ct cD bW aG hN hb0 EB;have fS:=cM ht n;rw [kH.out] at fS;have jM:=bH ht (n:=(n:Int)) af;rw [kH.out] at jM;have hk2:=tI ht hn az;rw [kH.out] at hk2;have eD:0<ns[n].kids.length:=af;obtain⟨lq,rq,fu,nu,gY⟩:=bQ cH.out eD;have yF:ns[n].kids.getD 0 0=ns[n].kids[0]:=QA;have fB:=jM ns[n].kids[0] (List.getElem_mem eD);rw [yF] at gY;obtain⟨z0,hz0⟩:∃z:Nat,ns[n].kids[0]=(z:Int):=⟨(ns[n].kids[0]).toNat,by omega⟩;rw [hz0] at fB gY;have gG:ns[n].kids.getD 0 0=(z0:Int):=yF.trans hz0;have Fo:z0<ns.length:=af;rw [Nat.add_zero] at gY;have qU:=mD.out.mono h0;have kc0:=(qU.cell (p:=⟨lq,_,none⟩) nu).trans gY;have mb0:lq<W.heap.size:=af;rw [kH.out,gG] at hres;have Aw:=gq ht.ahead (ax ns (n:Int));have xg:=fQ ht.ahead n;have oH:=eB (ns:=ns) ns[n].kids 0 eD;rw [hz0] at oH;have hza:wt ns z0+1≤wt ns n:=by have e:((z0:Int)).toNat=z0:=rfl;rw [e] at oH;omega
 have Qv:=jI hi ns (n:Int) (fn:Int) af;have hnf:=lu ns s (n:Int) (fn:Int);rw [pz.out] at az;rw [he] at c8;have Hi:=hid hi;have kj:=hid ht;have je:=hid IH;have kI:=hid bz;have Ir:=hid Qv;have jc:=hid hres;clear hres hi ht IH bz Qv fS jM Aw oH qU yF hz0 gG eD;have Ni:=hid gY;clear gY;generalize ns[n]=x at*;obtain⟨xk,xt,xp,xc,dx,eY⟩:=x;simp only at az k0 k1 k2 k3 fu;subst az;obtain⟨xl,xX⟩:∃xl,xl=dx.length:=⟨_,rfl⟩;simp only at hk2;rw [←xX] at k2 hk2;have hx0:(0:Int)<(xl:Int):=af;rw [fu] at k2;clear xX fu;go_enter Tryz.func28,Tryz.ntmps28;go_wp2_with (go_at_call 70;refine(Qy (HF.out.later (au W _)) Hi.out HN.out h0 (mD.out.trans ((au W _).mono pq)) n fn hn hfn af).mono ?_);intro e w9 hh
 first|(subst hh;intro fE)|(obtain⟨rfl,fE⟩:=hh)
 try rw [←hp] at fE
 obtain⟨r0,r1,r2,r3,r4,r5,nt⟩:=fE.Ak;have Dd:=hid nt;have Fl:=hid fE;have De:=tO fE sg;have bx2:w9.cell? ⟨W.heap.size,2,none⟩=some (.slice (some ⟨lq,rq,none⟩) xl xc):=BB;have X5:w9.cell? ⟨FB,0,none⟩=some (.slice (some ⟨b,o,none⟩) ns.length c):=Fm;have Qw:w9.cell? ⟨FB,8,none⟩=some (.int .i64 (cY ns s n fn).e):=nt.cell 8;have lO:=(mD.out.trans ((au W _).mono pq)).trans fE.below;have QB:=((lO.mono h0).cell (p:=⟨lq,_,none⟩) nu).trans Ni.out;have Df:=hid lO;clear nt fE De lO;have hv4:=Ir.out.v1;go_wp2_with (go_at_call 28;refine(je.out z0 af fn loop _ _ ⟨_,_,_,_,_,_,Dd.out⟩ Ir.out.inv Df.out (by rw [lu];exact hfn) af (by rw [lu];omega)).mono ?_);exact ac7
theorem X7 (ht:Tree ns) (hN:ay W0 p ns) (bz:∀x∈ns,x.kids.length≤x.aP) (h0:W0.heap.size≤FB) (k n:Nat) (kU:n≤k) (hn:n<ns.length) (IH:∀q,q<n→pX FB p c ns W0 k q) (az:aq ns (n:Int)=9) (fn:Nat) (loop:Bool) (W:World) (s:Fs) (hf:Qm FB p c ns.length W s) (hi:cN ns.length s) (hb0:Below FB W0 W) (hfn:fn<s.funcs.length) (hsz:s.vars.length+wt ns n≤100000) (lK:s.funcs.length+wt ns n≤100000) (he:s.e=0):
  Calls Tryz.prog 28 #[.pointer (some ⟨FB,0,none⟩),.int .i64 n,.int .i64 fn,.bool loop] W fun e' w'=>e'=.returned (.tuple #[])∧FP FB p c ns.length (aA ns (k+1) n fn loop s) W w':=by
 have hres:aA ns (k+1) n fn loop s=aA ns k ((ax ns (n:Int)).getD 1 0) fn true (aA ns k ((ax ns (n:Int)).getD 0 0) fn loop s):=by
  exact QC
 obtain⟨v0,v1,v2,v3,v4,v5,hF⟩:=hf;obtain⟨b,o,hp,bO,ct,aG,q0,q1,q2,q3⟩:=bh hN hn;have aX:=hb0.mono h0;have k0:=(aX.cell (p:=⟨b,_,none⟩) bO).trans q0;have k1:=(aX.cell (p:=⟨b,_,none⟩) bO).trans q1;have k2:=(aX.cell (p:=⟨b,_,none⟩) bO).trans q2;have k3:=(aX.cell (p:=⟨b,_,none⟩) bO).trans q3;have c0:W.cell? ⟨FB,0,none⟩=some (.slice (some ⟨b,o,none⟩) ns.length c):=iG;have c8:W.cell? ⟨FB,8,none⟩=some (.int .i64 s.e):=hF.cell 8;have pq:FB≤W.heap.size:=tP;have sg:=hF.lt;have Fk:=hid (hF.fp (Below.refl FB W) (eo.refl FB W) (Nat.le_refl _));have n0:(0:Int)≤(n:Int):=af;have n1:(n:Int)<(ns.length:Int):=af;have cD:=aL ct;have bW:ax ns (n:Int)=ns[n].kids:=iA;have pz:=hid cD;have kH:=hid bW;have cH:=hid aG;have HN:=hid hN;have HF:=hid hF;have mD:=hid hb0;have EB:(ns.length:Int)≤(ns.length:Int):=Int.le_refl _;clear q0 q1 q2 q3 aX hF ct cD bW aG hN hb0 EB;have fS:=cM ht n;rw [kH.out] at fS;have jM:=bH ht (n:=(n:Int)) af;rw [kH.out] at jM;have hk2:=eC ht hn az ak;rw [kH.out] at hk2;have eD:0<ns[n].kids.length:=af;obtain⟨lq,rq,fu,nu,gY⟩:=bQ cH.out eD;have yF:ns[n].kids.getD 0 0=ns[n].kids[0]:=QA;have fB:=jM ns[n].kids[0] (List.getElem_mem eD);rw [yF] at gY;obtain⟨z0,hz0⟩:∃z:Nat,ns[n].kids[0]=(z:Int):=⟨(ns[n].kids[0]).toNat,by omega⟩;rw [hz0] at fB gY;have gG:ns[n].kids.getD 0 0=(z0:Int):=yF.trans hz0;have Fo:z0<ns.length:=af;rw [Nat.add_zero] at gY;have fq:1<ns[n].kids.length:=af;obtain⟨AO,Nf,fX,si,jN⟩:=bQ cH.out fq;have yE:ns[n].kids.getD 1 0=ns[n].kids[1]:=Qu;have ep:=jM ns[n].kids[1] (List.getElem_mem fq);rw [yE] at jN;obtain⟨z1,hz1⟩:∃z:Nat,ns[n].kids[1]=(z:Int):=⟨(ns[n].kids[1]).toNat,by omega⟩;rw [hz1] at ep jN;have iH:ns[n].kids.getD 1 0=(z1:Int):=yE.trans hz1;have agK:z1<ns.length:=af;have qU:=mD.out.mono h0;have kc0:=(qU.cell (p:=⟨lq,_,none⟩) nu).trans gY;have mb0:lq<W.heap.size:=af;have kc1:=(qU.cell (p:=⟨AO,_,none⟩) si).trans jN;have mb1:AO<W.heap.size:=af;rw [kH.out,gG,iH] at hres;have Aw:=gq ht.ahead (ax ns (n:Int));have xg:=fQ ht.ahead n;have oH:=eB (ns:=ns) ns[n].kids 1 fq;have Bx:=eB (ns:=ns) (ns[n].kids.take 1) 0 pW;rw [List.getElem_take] at Bx;rw [hz1] at oH;rw [hz0] at Bx;have hza:wt ns z0+wt ns z1+1≤wt ns n:=by
  exact QD
 have Qv:=eI ht k z0 (fn:Int) loop s af Fo hi;rw [pz.out] at az;rw [he] at c8;have Hi:=hid hi;have kj:=hid ht;have je:=hid IH;have kI:=hid bz;have Ir:=hid Qv;have jc:=hid hres;clear hres hi ht IH bz Qv fS jM Aw oH qU yF hz0 gG eD yE hz1 iH fq Bx;have Ni:=hid gY;clear gY;have Ng:=hid jN;clear jN;generalize ns[n]=x at*;obtain⟨xk,xt,xp,xc,dx,eY⟩:=x;simp only at az k0 k1 k2 k3 fu fX;subst az;obtain⟨xl,xX⟩:∃xl,xl=dx.length:=⟨_,rfl⟩;simp only at hk2;rw [←xX] at k2 hk2;have hx0:(0:Int)<(xl:Int):=af;have hx1:(1:Int)<(xl:Int):=af;rw [fu] at k2;rw [fu] at fX;cases fX;clear xX fu;go_enter Tryz.func28,Tryz.ntmps28;go_wp2_with (go_at_call 28;refine(je.out z0 af fn loop _ _ ⟨_,_,_,_,_,_,HF.out.later (au W _)⟩ Hi.out (mD.out.trans ((au W _).mono pq)) hfn af af).mono ?_);intro e w9 hh
 first|(subst hh;intro fE)|(obtain⟨rfl,fE⟩:=hh)
 try rw [←hp] at fE
 obtain⟨r0,r1,r2,r3,r4,r5,nt⟩:=fE.Ak;have Dd:=hid nt;have Fl:=hid fE;have De:=tO fE sg;have bx2:w9.cell? ⟨W.heap.size,2,none⟩=some (.slice (some ⟨lq,rq,none⟩) xl xc):=BB;have X5:w9.cell? ⟨FB,0,none⟩=some (.slice (some ⟨b,o,none⟩) ns.length c):=Fm;have Qw:w9.cell? ⟨FB,8,none⟩=some (.int .i64 (aA ns k (z0:Int) (fn:Int) loop s).e):=nt.cell 8;have lO:=(mD.out.trans ((au W _).mono pq)).trans fE.below;have QB:=((lO.mono h0).cell (p:=⟨lq,_,none⟩) nu).trans Ni.out;have Qx:=((lO.mono h0).cell (p:=⟨lq,_,none⟩) si).trans Ng.out;have Df:=hid lO;clear nt fE De lO;have hv4:=Ir.out.v1;have hf4:=Ir.out.f0;have hf5:=Ir.out.f1;go_wp2_with (go_at_call 28;refine(je.out z1 af fn true _ _ ⟨_,_,_,_,_,_,Dd.out⟩ Ir.out.inv Df.out af af af).mono ?_);exact ac7
theorem X8 (ht:Tree ns) (hN:ay W0 p ns) (bz:∀x∈ns,x.kids.length≤x.aP) (h0:W0.heap.size≤FB) (k n:Nat) (kU:n≤k) (hn:n<ns.length) (IH:∀q,q<n→pX FB p c ns W0 k q) (az:aq ns (n:Int)=6) (fn:Nat) (loop:Bool) (W:World) (s:Fs) (hf:Qm FB p c ns.length W s) (hi:cN ns.length s) (hb0:Below FB W0 W) (hfn:fn<s.funcs.length) (hsz:s.vars.length+wt ns n≤100000) (lK:s.funcs.length+wt ns n≤100000) (he:s.e=0):
  Calls Tryz.prog 28 #[.pointer (some ⟨FB,0,none⟩),.int .i64 n,.int .i64 fn,.bool loop] W fun e' w'=>e'=.returned (.tuple #[])∧FP FB p c ns.length (aA ns (k+1) n fn loop s) W w':=by
 have hres:aA ns (k+1) n fn loop s=aA ns k ((ax ns (n:Int)).getD 1 0) fn loop (if aq ns ((ax ns (n:Int)).getD 0 0)=17 then jq ns s ((ax ns (n:Int)).getD 0 0) fn true else aA ns k ((ax ns (n:Int)).getD 0 0) fn loop s):=by
  exact QE
 obtain⟨v0,v1,v2,v3,v4,v5,hF⟩:=hf;obtain⟨b,o,hp,bO,ct,aG,q0,q1,q2,q3⟩:=bh hN hn;have aX:=hb0.mono h0;have k0:=(aX.cell (p:=⟨b,_,none⟩) bO).trans q0;have k1:=(aX.cell (p:=⟨b,_,none⟩) bO).trans q1;have k2:=(aX.cell (p:=⟨b,_,none⟩) bO).trans q2;have k3:=(aX.cell (p:=⟨b,_,none⟩) bO).trans q3;have c0:W.cell? ⟨FB,0,none⟩=some (.slice (some ⟨b,o,none⟩) ns.length c):=iG;have c8:W.cell? ⟨FB,8,none⟩=some (.int .i64 s.e):=hF.cell 8;have pq:FB≤W.heap.size:=tP;have sg:=hF.lt;have Fk:=hid (hF.fp (Below.refl FB W) (eo.refl FB W) (Nat.le_refl _));have n0:(0:Int)≤(n:Int):=af;have n1:(n:Int)<(ns.length:Int):=af;have cD:=aL ct;have bW:ax ns (n:Int)=ns[n].kids:=iA;have pz:=hid cD;have kH:=hid bW;have cH:=hid aG;have HN:=hid hN;have HF:=hid hF;have mD:=hid hb0;have EB:(ns.length:Int)≤(ns.length:Int):=Int.le_refl _;clear q0 q1 q2 q3 aX hF ct cD bW aG hN hb0 EB;have fS:=cM ht n;rw [kH.out] at fS;have jM:=bH ht (n:=(n:Int)) af;rw [kH.out] at jM;have hk2:=eC ht hn az ak;rw [kH.out] at hk2;have eD:0<ns[n].kids.length:=af;obtain⟨lq,rq,fu,nu,gY⟩:=bQ cH.out eD;have yF:ns[n].kids.getD 0 0=ns[n].kids[0]:=QA;have fB:=jM ns[n].kids[0] (List.getElem_mem eD);rw [yF] at gY;obtain⟨z0,hz0⟩:∃z:Nat,ns[n].kids[0]=(z:Int):=⟨(ns[n].kids[0]).toNat,by omega⟩;rw [hz0] at fB gY;have gG:ns[n].kids.getD 0 0=(z0:Int):=yF.trans hz0;have Fo:z0<ns.length:=af;rw [Nat.add_zero] at gY;have fq:1<ns[n].kids.length:=af;obtain⟨AO,Nf,fX,si,jN⟩:=bQ cH.out fq;have yE:ns[n].kids.getD 1 0=ns[n].kids[1]:=Qu;have ep:=jM ns[n].kids[1] (List.getElem_mem fq);rw [yE] at jN;obtain⟨z1,hz1⟩:∃z:Nat,ns[n].kids[1]=(z:Int):=⟨(ns[n].kids[1]).toNat,by omega⟩;rw [hz1] at ep jN;have iH:ns[n].kids.getD 1 0=(z1:Int):=yE.trans hz1;have agK:z1<ns.length:=af;have qU:=mD.out.mono h0;have kc0:=(qU.cell (p:=⟨lq,_,none⟩) nu).trans gY;have mb0:lq<W.heap.size:=af;have kc1:=(qU.cell (p:=⟨AO,_,none⟩) si).trans jN;have mb1:AO<W.heap.size:=af;rw [kH.out,gG,iH] at hres;have Aw:=gq ht.ahead (ax ns (n:Int));have xg:=fQ ht.ahead n;have oH:=eB (ns:=ns) ns[n].kids 1 fq;have Bx:=eB (ns:=ns) (ns[n].kids.take 1) 0 pW;rw [List.getElem_take] at Bx;rw [hz1] at oH;rw [hz0] at Bx;have hza:wt ns z0+wt ns z1+1≤wt ns n:=by
  exact QD
 have Qv:=eI ht k z0 (fn:Int) loop s af Fo hi;have Hnu:=hid (tJ hi ns (z0:Int) (fn:Int) true (wt ns z0));rw [pz.out] at az;rw [he] at c8;have Hi:=hid hi;have kj:=hid ht;have je:=hid IH;have kI:=hid bz;have Ir:=hid Qv;have jc:=hid hres;clear hres hi ht IH bz Qv fS jM Aw oH qU yF hz0 gG eD yE hz1 iH fq Bx;have Ni:=hid gY;clear gY;have Ng:=hid jN;clear jN;generalize ns[n]=x at*;obtain⟨xk,xt,xp,xc,dx,eY⟩:=x;simp only at az k0 k1 k2 k3 fu fX;subst az;obtain⟨xl,xX⟩:∃xl,xl=dx.length:=⟨_,rfl⟩;simp only at hk2;rw [←xX] at k2 hk2;have hx0:(0:Int)<(xl:Int):=af;have hx1:(1:Int)<(xl:Int):=af;rw [fu] at k2;rw [fu] at fX;cases fX;clear xX fu;go_enter Tryz.func28,Tryz.ntmps28;obtain⟨b2,o2,Aj,_,hx2,_,q0',_,_,_⟩:=bh HN.out Fo;rw [hp] at Aj;cases Aj;have kz:=((mD.out.mono h0).cell (p:=⟨b,_,none⟩) bO).trans q0';have kf:=aL hx2;have Js:=hid kf;have mbb:b<W.heap.size:=af;have zz0:(0:Int)≤(z0:Int):=af;have zz1:(z0:Int)<(ns.length:Int):=af;clear q0' hx2 kf;generalize ns[z0].kind=kz0 at*;by_cases PS:kz0=17
 ·subst PS;go_wp2;go_quiet (fail);rename_i nq;go_wp2_with (go_at_call 67;refine(ac6 (HF.out.later (jt W _ nq)) Hi.out HN.out h0 (mD.out.trans ((jt W _ nq).mono pq)) z0 fn Fo af true).mono ?_);intro e w9 hh
  first|(subst hh;intro fE)|(obtain⟨rfl,fE⟩:=hh)
  try rw [←hp] at fE
  obtain⟨r0,r1,r2,r3,r4,r5,nt⟩:=fE.Ak;have Dd:=hid nt;have Fl:=hid fE;have De:=BA fE sg;have bx2:w9.cell? ⟨W.heap.size,2,none⟩=some (.slice (some ⟨lq,rq,none⟩) xl xc):=BB;have X5:w9.cell? ⟨FB,0,none⟩=some (.slice (some ⟨b,o,none⟩) ns.length c):=Fm;have Qw:w9.cell? ⟨FB,8,none⟩=some (.int .i64 (jq ns s z0 fn true).e):=nt.cell 8;have lO:=(mD.out.trans ((jt W _ nq).mono pq)).trans fE.below;have QB:=((lO.mono h0).cell (p:=⟨lq,_,none⟩) nu).trans Ni.out;have Qx:=((lO.mono h0).cell (p:=⟨lq,_,none⟩) si).trans Ng.out;have Df:=hid lO;clear nt fE De lO;have hv4:=Hnu.out.v1;have hf4:=Hnu.out.f0;have hf5:=Hnu.out.f1;go_wp2_with (go_at_call 28;refine(je.out z1 af fn loop _ _ ⟨_,_,_,_,_,_,Dd.out⟩ Hnu.out.inv Df.out af af af).mono ?_);intro e w8 hh
  first|(subst hh;intro oZ)|(obtain⟨rfl,oZ⟩:=hh)
  try rw [←hp] at oZ
  have Nh:=hid oZ;have pY:=jc.out;rw [if_pos Js.out] at pY;exact QF
 ·have awy:=PS;go_wp2;go_quiet (fail);rename_i nq;go_wp2_with (go_at_call 28;refine(je.out z0 af fn loop _ _ ⟨_,_,_,_,_,_,HF.out.later (jt W _ nq)⟩ Hi.out (mD.out.trans ((jt W _ nq).mono pq)) hfn af af).mono ?_);intro e w9 hh
  first|(subst hh;intro fE)|(obtain⟨rfl,fE⟩:=hh)
  try rw [←hp] at fE
  obtain⟨r0,r1,r2,r3,r4,r5,nt⟩:=fE.Ak;have Dd:=hid nt;have Fl:=hid fE;have De:=BA fE sg;have bx2:w9.cell? ⟨W.heap.size,2,none⟩=some (.slice (some ⟨lq,rq,none⟩) xl xc):=BB;have X5:w9.cell? ⟨FB,0,none⟩=some (.slice (some ⟨b,o,none⟩) ns.length c):=Fm;have Qw:w9.cell? ⟨FB,8,none⟩=some (.int .i64 (aA ns k (z0:Int) (fn:Int) loop s).e):=nt.cell 8;have lO:=(mD.out.trans ((jt W _ nq).mono pq)).trans fE.below;have QB:=((lO.mono h0).cell (p:=⟨lq,_,none⟩) nu).trans Ni.out;have Qx:=((lO.mono h0).cell (p:=⟨lq,_,none⟩) si).trans Ng.out;have Df:=hid lO;clear nt fE De lO;have hv4:=Ir.out.v1;have hf4:=Ir.out.f0;have hf5:=Ir.out.f1;go_wp2_with (go_at_call 28;refine(je.out z1 af fn loop _ _ ⟨_,_,_,_,_,_,Dd.out⟩ Ir.out.inv Df.out af af af).mono ?_);intro e w8 hh
  first|(subst hh;intro oZ)|(obtain⟨rfl,oZ⟩:=hh)
  try rw [←hp] at oZ
  have Nh:=hid oZ;have pY:=jc.out;rw [if_neg (fun e=>PS (Js.out.symm.trans e))] at pY;exact QF
theorem Nj (ht:Tree ns) (hN:ay W0 p ns) (bz:∀x∈ns,x.kids.length≤x.aP) (h0:W0.heap.size≤FB) (k n:Nat) (kU:n≤k) (hn:n<ns.length) (IH:∀q,q<n→pX FB p c ns W0 k q) (az:aq ns (n:Int)≠17∧aq ns (n:Int)≠11∧aq ns (n:Int)≠22∧aq ns (n:Int)≠4∧aq ns (n:Int)≠5∧aq ns (n:Int)≠6∧aq ns (n:Int)≠9) (fn:Nat) (loop:Bool) (W:World) (s:Fs) (hf:Qm FB p c ns.length W s) (hi:cN ns.length s) (hb0:Below FB W0 W) (hfn:fn<s.funcs.length) (hsz:s.vars.length+wt ns n≤100000) (lK:s.funcs.length+wt ns n≤100000) (he:s.e=0):
  Calls Tryz.prog 28 #[.pointer (some ⟨FB,0,none⟩),.int .i64 n,.int .i64 fn,.bool loop] W fun e' w'=>e'=.returned (.tuple #[])∧FP FB p c ns.length (aA ns (k+1) n fn loop s) W w':=by
 obtain⟨m1,m2,m3,m4,m5,m6,m7⟩:=az;obtain⟨G,hG⟩:∃G:Fs→Int→Fs,G=fun s q=>aA ns k q fn loop s:=⟨_,rfl⟩
 have hres:aA ns (k+1) n fn loop s=(if aq ns (n:Int)=3 then {((ax ns (n:Int)).foldl G s) with seen:=((ax ns (n:Int)).foldl G s).seen.take s.seen.length} else((ax ns (n:Int)).foldl G s)):=by
  rw [dM,if_neg ni,if_neg m1,if_neg m2,if_neg m3,if_neg m4,if_neg m5,if_neg m6,if_neg m7,hG]
 obtain⟨v0,v1,v2,v3,v4,v5,hF⟩:=hf;obtain⟨b,o,hp,bO,ct,aG,q0,q1,q2,q3⟩:=bh hN hn;have aX:=hb0.mono h0;have k0:=(aX.cell (p:=⟨b,_,none⟩) bO).trans q0;have k1:=(aX.cell (p:=⟨b,_,none⟩) bO).trans q1;have k2:=(aX.cell (p:=⟨b,_,none⟩) bO).trans q2;have k3:=(aX.cell (p:=⟨b,_,none⟩) bO).trans q3;have c0:W.cell? ⟨FB,0,none⟩=some (.slice (some ⟨b,o,none⟩) ns.length c):=iG;have c8:W.cell? ⟨FB,8,none⟩=some (.int .i64 s.e):=hF.cell 8;have pq:FB≤W.heap.size:=tP;have sg:=hF.lt;have Fk:=hid (hF.fp (Below.refl FB W) (eo.refl FB W) (Nat.le_refl _));have n0:(0:Int)≤(n:Int):=af;have n1:(n:Int)<(ns.length:Int):=af;have cD:=aL ct;have bW:ax ns (n:Int)=ns[n].kids:=iA;have pz:=hid cD;have kH:=hid bW;have cH:=hid aG;have HN:=hid hN;have HF:=hid hF;have mD:=hid hb0;have EB:(ns.length:Int)≤(ns.length:Int):=Int.le_refl _;clear q0 q1 q2 q3 aX hF ct cD bW aG hN hb0 EB;have fS:=cM ht n;rw [kH.out] at fS;have jM:=bH ht (n:=(n:Int)) af;rw [kH.out] at jM;rw [pz.out] at m1 m2 m3 m4 m5 m6 m7;rw [pz.out,kH.out] at hres;have Aw:=gq ht.ahead ns[n].kids;rw [he] at c8;have Hi:=hid hi;have kj:=hid ht;have je:=hid IH;have kI:=hid bz;have jc:=hid hres;have HG:=hid hG;have Iu:=hid jM;have Fp:=hid fS;have hsn:s.seen.length≤100000:=Nat.le_trans hi.few af;obtain⟨sv4,sc4,QG⟩:∃sv sc,v4=.slice sv s.seen.length sc:=by
  rcases(HF.out.rows.rows 3 _ _ rfl rfl).2 with⟨e1,e2⟩|⟨g,cap,cur,e1,_⟩
  ·exact Fq
  ·exact⟨_,_,e1⟩
 have c5:W.cell? ⟨FB,5,none⟩=some (.slice sv4 s.seen.length sc4):=by rw [←QG];exact HF.out.cell 5
 have m1':=fun e=>m1 (Eq.symm e)
 have alj:(ns[n].kids.length:Int)≤100000:=af;have aqi:=hid (show ns[n].kids=ns[n].kids from rfl);clear hres hi ht IH bz hG jM fS QG m1' Aw aqi;generalize ns[n]=x at*;obtain⟨xk,xt,xp,xc,dx,eY⟩:=x;simp only at m1 m2 m3 m4 m5 m6 m7 k0 k1 k2 k3 alj;obtain⟨xl,xX⟩:∃xl,xl=dx.length:=⟨_,rfl⟩;rw [←xX] at k2 alj;have Xd:=hid xX;clear xX;go_enter Tryz.func28,Tryz.ntmps28;go_wp2;go_loopw [34] (fun iv wr=>∃(j:Nat) (sj:Fs),iv=.int .i64 j∧j≤xl∧Hid (FP FB p c ns.length sj (W.alloc (.cells #[.int .i64 xk,.string xt,.slice xp xl xc,.int .i64 eY] 56)) wr∧fI ns.length (fV ns (dx.take j)) s sj∧(dx.drop j).foldl G sj=dx.foldl G s)) (fun iv _=>xl - (intOf iv).toNat)
 case atStart=>exact⟨0,s,rfl,Nat.zero_le _,hid ⟨(HF.out.later (au W _)).fp (Below.refl _ _) (eo.refl _ _) (Nat.le_refl _),fI.refl Hi.out _,rfl⟩⟩
 case round=>
  obtain⟨j,sj,rfl,hj,hJ⟩:=hrel;obtain⟨tj,vO,MN⟩:=hJ.out;obtain⟨r0,r1,r2,r3,r4,r5,gH⟩:=tj.Ak;have X9:=hid gH;have X1:=hid tj;have HGj:=hid vO;have HEj:=hid MN;have hBj:=(mD.out.trans ((au W _).mono pq)).trans tj.below;have HBj:=hid hBj;have De:=tO tj sg;have hj0:(0:Int)≤(j:Int):=af;by_cases hjx:j<xl
  ·have ji:j<dx.length:=by have:=Xd.out;omega
   obtain⟨bk,ok,eO,lg,fN⟩:=bQ cH.out ji;simp only at eO fN;have eA:=((HBj.out.mono h0).cell (p:=⟨bk,_,none⟩) lg).trans fN;have fR:dx.getD j 0=dx[j]:=Fu;have dA:=Iu.out dx[j] (List.getElem_mem ji);rw [fR] at eA;obtain⟨z,hz⟩:∃z:Nat,dx[j]=(z:Int):=⟨(dx[j]).toNat,by omega⟩;rw [hz] at dA eA;have hzl:z<ns.length:=af;have oG:dx.drop j=(z:Int)::dx.drop (j+1):=by rw [List.drop_eq_getElem_cons ji,hz]
   have gM:dx.take (j+1)=dx.take j++[(z:Int)]:=EP;have oH:=eB (ns:=ns) dx j ji;rw [hz] at oH;have hza:fV ns (dx.take j)+wt ns z≤fV ns dx:=oH;have hz2:=Fp.out;have MO:=eI kj.out k z (fn:Int) loop sj af hzl vO.inv;have hgA:=vO.trans MO;have MP:=vO.v1;have Ez:=vO.f1;have ko:=vO.f0;have hwx:wt ns n=1+fV ns dx:=hz2;have hj1:(j:Int)<(xl:Int):=af;have HgA:=hid hgA;have tD:=hid oG;have lR:=hid gM;have XG:=hid eO;rw [eO];clear tj vO MN hJ gH hBj De fR hz oG gM oH hz2 MO hgA fN eO;go_wp2_with (go_at_call 28;refine(je.out z af fn loop _ _ ⟨_,_,_,_,_,_,X9.out⟩ HGj.out.inv HBj.out af af af).mono ?_);intro e w9 hh
   first|(subst hh;intro kJ)|(obtain⟨rfl,kJ⟩:=hh)
   try rw [←hp] at kJ
   have QH:=hid kJ;clear kJ;go_wp2;go_roundw
   case rel=>
    have hT:=X1.out.trans QH.out;rw [XG.out] at hT;refine⟨j+1,aA ns k (z:Int) (fn:Int) loop sj,by go_num,by omega,hid ⟨hT,HgA.out.le ?_, ?_⟩⟩
    ·rw [lR.out,CM];simp [fV]
    ·rw [←HEj.out,tD.out,List.foldl_cons,HG.out]
   case measure=>simp [intOf];omega
  ·obtain rfl:j=xl:=by omega
   have hsj:dx.foldl G s=sj:=by rw [←HEj.out,List.drop_eq_nil_of_le (by have:=Xd.out;omega)];rfl
   have bx0:wr.cell? ⟨W.heap.size,0,none⟩=some (.int .i64 xk):=BB;have hlen:s.seen.length≤sj.seen.length:=vO.seen;have hrow:=gH.rows.rows 3 _ _ rfl rfl;obtain⟨sv,sc,nR,alk,alm,QI⟩:=jO hrow hlen;have e5:wr.cell? ⟨FB,5,none⟩=some (.slice sv sj.seen.length sc):=by rw [←nR];exact gH.cell 5
   have f5:=gH.frozen 5;have hsi:(s.seen.length:Int)≤(sc:Int):=af;have hs0:(0:Int)≤(s.seen.length:Int):=af;have hs9:(s.seen.length:Int)≤100000:=af;have eP:=gH.Fv QI (by rw [nR];cases sv<;>rfl);have hfp:=hid ((Fk.out.later (au W _) pq).trans (tj.trans (eP.fp ((Below.refl FB wr).setCell (p:=⟨FB,5,none⟩) (Nat.le_refl _) _) (ew 5 _) ak)));have aqk:=hid ((Fk.out.later (au W _) pq).trans tj);have tQ:=jc.out;rw [hsj] at tQ;have ac9:=hid tQ;clear tj vO MN hJ gH hBj De hrow QI eP hsj tQ nR;by_cases h3:xk=3
   ·subst h3;have hr:=ac9.out.trans (if_pos rfl);have Hr:=hid hr;clear hr;go_wp2;go_end0;refine⟨rfl, ?_⟩;have eP:=hfp.out;rw [←Hr.out] at eP;exact uY
   ·have hr:=ac9.out.trans (if_neg h3);have Hr:=hid hr;clear hr;go_wp2;go_end0;refine⟨rfl, ?_⟩;have eP:=aqk.out;rw [←Hr.out] at eP;exact uY
theorem QJ (ht:Tree ns) (hN:ay W0 p ns) (bz:∀x∈ns,x.kids.length≤x.aP) (h0:W0.heap.size≤FB):∀(k n:Nat),n<k→n<ns.length→pX FB p c ns W0 k n
 |0,n,h,_=>absurd h af
 |k+1,n,kU,hn=>fun fn loop W s hf hi hb0 hfn hsz lK=>by
  have IH:∀q,q<n→pX FB p c ns W0 k q:=fun q hq=>QJ ht hN bz h0 k q af af
  by_cases he:s.e=0
  ·by_cases m1:aq ns (n:Int)=17
   ·exact Qn ht hN bz h0 k n af hn IH m1 fn loop W s hf hi hb0 hfn hsz lK he
   by_cases m2:aq ns (n:Int)=11
   ·exact Qr ht hN bz h0 k n af hn IH m2 fn loop W s hf hi hb0 hfn hsz lK he
   by_cases m3:aq ns (n:Int)=22
   ·exact Qp ht hN bz h0 k n af hn IH m3 fn loop W s hf hi hb0 hfn hsz lK he
   by_cases m4:aq ns (n:Int)=4
   ·exact X4 ht hN bz h0 k n af hn IH m4 fn loop W s hf hi hb0 hfn hsz lK he
   by_cases m5:aq ns (n:Int)=5
   ·exact X6 ht hN bz h0 k n af hn IH m5 fn loop W s hf hi hb0 hfn hsz lK he
   by_cases m6:aq ns (n:Int)=6
   ·exact X8 ht hN bz h0 k n af hn IH m6 fn loop W s hf hi hb0 hfn hsz lK he
   by_cases m7:aq ns (n:Int)=9
   ·exact X7 ht hN bz h0 k n af hn IH m7 fn loop W s hf hi hb0 hfn hsz lK he
   exact Nj ht hN bz h0 k n af hn IH ⟨m1,m2,m3,m4,m5,m6,m7⟩ fn loop W s hf hi hb0 hfn hsz lK he
  ·exact Ql hN h0 k n hn fn loop W s hf hb0 he
end
end Go.Proofs.YtjchnliaglecoaaGreatDoor
