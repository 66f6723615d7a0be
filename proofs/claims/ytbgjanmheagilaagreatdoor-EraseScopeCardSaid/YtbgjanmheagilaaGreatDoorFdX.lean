/- A part of the proof. Conditions: none. -/
import Derived.Deep.AppendLies
import Derived.Test.YtbgjanmheagilaaGreatDoorZz
import Derived.Test.YtbgjanmheagilaaGreatDoorFaX
import Derived.Test.YtbgjanmheagilaaGreatDoorAmUX
import Derived.Test.YtbgjanmheagilaaGreatDoorApX
import Derived.Test.YtbgjanmheagilaaGreatDoorTs
set_option linter.unusedVariables false
set_option linter.unusedSimpArgs false
set_option maxRecDepth 100000
set_option maxHeartbeats 8000000
namespace Go.Proofs.YtbgjanmheagilaaGreatDoor
open Go Go.RowKit Go.Nodes
theorem Tryz.XZ:(Tryz.prog.info? 37).map (fun i=>(i.zero,i.size,i.bytes))=some (some (.agg #[.int .i64 0,.int .i64 0,.bool false,.bool false]),4,24):=by kernel_rfl
section
variable {FB:Nat} {p:Option Addr} {c L:Nat} {W:World} {s:Fs} {v0 v1 v2 v3 v4 v5:Value}
theorem ints_at {B:Nat} {v:Value} {l:List Int} (h:Ints B W v l) {i:Nat} (hi:i<l.length):∃g cp,v=.slice (some ⟨g,0,none⟩) l.length cp∧B≤g∧W.cell? ⟨g,i,none⟩=some (.int .i64 l[i])∧W.frozen? ⟨g,i,none⟩=false∧l.length≤cp∧cp≤maxLen:=by
 rcases h.2 with⟨_,h2⟩|⟨g,cap,cur,hv,hg,hh,hn,hm,hsz,xz⟩
 ·omega
 ·refine⟨g,cap,hv,hg, ?_,by simp [World.frozen?,hh],hn,hm⟩;rw [cell_of_row W g i cur 3 (0,0) hh];have:(cur.toList.take (l.length*1))[i]?=some (.int .i64 l[i]):=by rw [xz];simp [List.getElem?_map,List.getElem?_eq_getElem hi]
  rw [List.getElem?_take,if_pos aa] at this;simpa using this
theorem iu {g i:Nat} (x:Value) (h:∀cs t,W.heap[g]?=some (.cells cs t (0,0))→t=3∨t=37):cA FB W (W.setCell ⟨g,i,none⟩ x):=fun k cs t h1 h2 h3 h4=>by
 by_cases e:k=g
 ·subst e;rcases h cs t h1 with e|e
  ·exact absurd e h2
  ·exact absurd e h3
 ·rw [Below.heap_setCell _ _ _ _ (by simpa using e)];exact h1
theorem jO {B:Nat} {l:List Int} {g n cp:Nat} (h:Ints B W (.slice (some ⟨g,0,none⟩) n cp) l):∀cs t,W.heap[g]?=some (.cells cs t (0,0))→t=3∨t=37:=fun cs t hh=>by
 obtain⟨cc,fz,h2⟩:=Lib.ownsRow_kind h g rfl;rw [hh] at h2;cases h2;exact .inl rfl
theorem bz.X0 {W1:World} {v':Value} {l':List Int} (h1:W1.heap[FB]?=some (.cells #[.slice p L c,v0,v1,v2,v3,v4,v5,.int .i64 s.aT,.int .i64 s.e] 61 (0,0))) (h2:gH (FB+1) W1 [v1,v2,v3,v',v5] [s.uses,s.funcs,s.jh,l',s.many]) (h3:W1.ownsRow (FB+1) 37 4 v0 s.vars.length (cJ s.vars)):
  bz FB p c L (W1.setCell ⟨FB,5,none⟩ v') {s with seen:=l'} v0 v1 v2 v3 v' v5:=by
 exact UZ
structure pO (FB:Nat) (p:Option Addr) (c L:Nat) (s:Fs) (v0 v1 v2 v3 v4 v5:Value) (WX:World) (f:Nat→Bool) (ca:Act) (w:World):Prop where
 below:Below FB WX w
 keep:cA FB WX w
 size:WX.heap.size≤w.heap.size
 heap:w.heap[FB]?=some (.cells #[.slice p L c,v0,v1,v2,v3,v4,v5,.int .i64 s.aT,.int .i64 s.e] 61 (0,0))
 wH:f 12=false→bz FB p c L w s v0 v1 v2 v3 v4 v5
 len:64<ca.tmps.size
 mid:f 12=true→gH (FB+1) w [v1,v2,v3,ca.tmps.getD 64 undef,v5] [s.uses,s.funcs,s.jh,s.seen++[(s.vars.length:Int)],s.many]∧w.ownsRow (FB+1) 37 4 v0 s.vars.length (cJ s.vars)
theorem pO.put {WX w:World} {f:Nat→Bool} {ca:Act} (h:pO FB p c L s v0 v1 v2 v3 v4 v5 WX f ca w) {k:Nat} {d:Tmp} {v:Value} (hk:k≠12) (hd:d≠64):pO FB p c L s v0 v1 v2 v3 v4 v5 WX (fun j=>if j=k then true else f j) (ca.put (some d) v) w:=by
 have e:(if(12:Nat)=k then true else f 12)=f 12:=if_neg (fun e=>hk e.symm);refine⟨h.below,h.keep,h.size,h.heap,fun hf=>h.wH (by rw [←e];exact hf),by simpa [Act.put] using h.len,fun hf=>?_⟩;rw [Am.aX hd];exact h.mid (by rw [←e];exact hf)
theorem pO.alloc {WX w:World} {f:Nat→Bool} {ca:Act} (h:pO FB p c L s v0 v1 v2 v3 v4 v5 WX f ca w) (JO:FB≤WX.heap.size) (o:Obj):pO FB p c L s v0 v1 v2 v3 v4 v5 WX f ca (w.alloc o):=by
 have hb:Below w.heap.size w (w.alloc o):=(Below.refl _ _).alloc (Nat.le_refl _) o;have hs:=h.size;exact⟨h.below.trans (hb.mono aa),h.keep.trans (bW hb),Nat.le_trans hs hb.size,by rw [hb.block FB (Array.getElem?_eq_some_iff.1 h.heap).1];exact h.heap,fun hf=>(h.wH hf).later hb,h.len,fun hf=>⟨(h.mid hf).1.later hb,cC (h.mid hf).2 hb⟩⟩
theorem mh {w w':World} {v:Value} {l:List Int} (h:Ints (FB+1) w v l) (hg:w.grownBy w' v.ownBlock):cA FB w w':=fun g cs t h1 h2 h3 h4=>by
 rw [hg.block g (Array.getElem?_eq_some_iff.1 h1).1 (fun e=>h2 ?_)]
 ·exact h1
 ·obtain⟨cc,fz,hh⟩:=Lib.ownsRow_kind h g e.symm;rw [h1] at hh;cases hh;rfl
theorem zK {w w':World} {v:Value} {n:Nat} {xs:List Value} (h:w.ownsRow (FB+1) 37 4 v n xs) (hg:w.grownBy w' v.ownBlock):cA FB w w':=fun g cs t h1 h2 h3 h4=>by
 rw [hg.block g (Array.getElem?_eq_some_iff.1 h1).1 (fun e=>h3 ?_)]
 ·exact h1
 ·obtain⟨cc,fz,hh⟩:=Lib.ownsRow_kind h g e.symm;rw [h1] at hh;cases hh;rfl
theorem pO.appended {WX w w':World} {f:Nat→Bool} {ca:Act} {v':Value} (h:pO FB p c L s v0 v1 v2 v3 v4 v5 WX f ca w) (hg:w.grownBy w' v4.ownBlock) (hown:Ints (FB+1) w' v' (s.seen++[(s.vars.length:Int)])) (AW:v'.ownBlock=v4.ownBlock∨v'.ownBlock=some w.heap.size) (hf:f 12=false) (hlt:64<ca.tmps.size):
  pO FB p c L s v0 v1 v2 v3 v4 v5 WX (fun j=>if j=12 then true else f j) (ca.put (some 64) v') w':=by
 have hV:=h.wH hf;have hI:=hV.rows.rows 3 _ _ rfl rfl;obtain⟨h1,h2,h3⟩:=hV.uG 3 rfl hg hown AW;have zI:∀k,v4.ownBlock=some k→FB≤k:=fun k hk=>by have:=(hI.lt k hk).1;omega
 refine⟨h.below.grown hg (by have:=hV.lt;omega) zI,h.keep.trans (mh hI hg),Nat.le_trans h.size hg.size,h1,fun hf=>(by simp at hf),by simpa [Act.put] using hlt,fun _=>⟨?_,h3⟩⟩;rw [Am.jk hlt];exact h2
end
def Et (FB:Nat) (v0 v4:Value) (ln:Int):Nat→World→Value→Prop
 |0,w,v=>v=.pointer (some ⟨FB,0,none⟩)
 |1,w,v=>v=.pointer (some ⟨FB,0,none⟩)
 |2,w,v=>v=.pointer (some ⟨FB,0,none⟩)
 |3,w,v=>v=.pointer (some ⟨FB,5,none⟩)
 |4,w,v=>v=v4
 |5,w,v=>v=.pointer (some ⟨FB,0,none⟩)
 |6,w,v=>v=.pointer (some ⟨FB,0,none⟩)
 |7,w,v=>v=.pointer (some ⟨FB,1,none⟩)
 |8,w,v=>v=.pointer (some ⟨FB,1,none⟩)
 |9,w,v=>v=v0
 |10,w,v=>v=.int .i64 ln
 |11,w,v=>∃U:Nat,v=.slice (some ⟨U,0,none⟩) 1 1∧w.heap[U]?=some (.cells #[.int .i64 ln] 3 (0,0))
 |_,w,v=>True
def sr:Nat→World→World→Prop:=fun i w w'=>if i=12 then True else Below w.heap.size w w'
def uH (i j:Nat):Bool:=(Nat.beq i 12 && (Nat.beq j 4||Nat.beq j 11))
theorem qO {FB:Nat} {v0 v4:Value} {ln:Int}:∀(i j:Nat) (w w':World) (v:Value),i≠j→uH i j=false→sr i w w'→Et FB v0 v4 ln j w v→Et FB v0 v4 ln j w' v:=by
 intro i j w w' v hij hsp hS h;unfold sr at hS;split at hS
 ·rename_i hz;subst hz;unfold Et at*;split at h<;>first|exact h|exact absurd rfl hij|exact absurd hsp ay
 ·unfold Et at*;split at h<;>first|exact h|exact(fun⟨U,e,hh⟩=>⟨U,e,(hS.block U (Array.getElem?_eq_some_iff.1 hh).1).trans hh⟩) h
theorem Li {FB:Nat} {p:Option Addr} {c:Nat} {ns:List Nd} {W0 W:World} {s:Fs} {v0 v1 v2 v3 v4 v5:Value} (hF:bz FB p c ns.length W s v0 v1 v2 v3 v4 v5) (hi:eF ns.length s) (hN:aj W0 p ns) (h0:W0.heap.size≤FB) (hb0:Below FB W0 W) (n fn:Nat) (hn:n<ns.length) (hfn:fn<s.funcs.length) (hsz:s.vars.length≤100000):
  Calls Tryz.prog 63 #[.pointer (some ⟨FB,0,none⟩),.int .i64 n,.int .i64 fn] W fun e' w'=>e'=.returned (.tuple #[])∧FP FB p c ns.length (eE ns s n fn) W w':=by
 have hNW:=eP (hb0.mono h0) hN;obtain⟨b,o,hp,dz,eO,bg,k0,k1,k2,k3⟩:=aY hNW hn;have wL:gN ns (n:Int)=(ns[n]).text.toList:=by unfold gN;rw [Int.toNat_natCast,eO]
 have c0:=hF.cell 0;simp only [List.getElem?_toArray,List.getElem?_cons_succ,List.getElem?_cons_zero] at c0;have n0:(0:Int)≤(n:Int):=aa;have n1:(n:Int)<(ns.length:Int):=aa;generalize ns[n]=x at*;have HB:=hid (fun W'=>oH x.text W');rw [hp] at c0;have HF:=hid hF;have ab7:=hid (hF.fp (Below.refl FB W) (cA.refl FB W) (Nat.le_refl _));clear hF;by_cases X1:0≤bn x.text.toList
 ·obtain⟨s0,hs0⟩:∃s0,s0=bt s n 110:=⟨_,rfl⟩;have Lj:eE ns s n fn=lC (if 200<(cG s0 fn).many.getD fn 0 then bt (cG s0 fn) n 2 else cG s0 fn) n fn:=by unfold eE;rw [wL,if_pos X1,←hs0];rfl
  obtain⟨xA,xB,_,_,xC,BM⟩:=dK s n 110;rw [←hs0] at xA xB xC BM;have hmc:∀m∈s0.many,0≤m∧m≤100000:=fun m hm=>by have:=hi.counts m (by rw [←BM];exact hm);omega
  have AV:fn<s0.many.length:=by rw [BM,hi.many];exact hfn
  have X2:s0.uses.length=ns.length:=by rw [xB];exact hi.uses
  have X3:s0.vars.length≤100000:=by rw [xA];exact hsz
  have X4:s0.seen.length≤100000:=by rw [xC];exact Nat.le_trans hi.few hsz
  have Ll:n<s0.uses.length:=aa;clear xA xB xC BM;go_enter Tryz.func63,Tryz.ntmps63;go_wp2_with (go_at_call 71;refine(HB.out _).mono ?_);intro e wa hh
  first|(subst hh;intro hb)|(obtain⟨rfl,hb⟩:=hh)
  have HPa:=hid (ab7.out.later hb (by have:=HF.out.lt;omega));clear hb;obtain⟨a0,a1,a2,a3,a4,a5,ha⟩:=HPa.out.wH;have Ha:=hid ha;clear ha;go_wp2_with (go_at_call 61;refine(uI Ha.out _ _).mono ?_);intro e wk hh
  first|(subst hh;intro hpk)|(obtain⟨rfl,hpk⟩:=hh)
  have HP:=hid (HPa.out.trans hpk);rw [←hs0] at HP;obtain⟨u0,u1,u2,u3,u4,u5,h⟩:=HP.out.wH;clear hpk Ha HPa hs0;obtain⟨gm,cm,rfl,hgm,cmn,fmn,afP,afQ⟩:=ints_at (h.rows.rows 4 _ _ rfl rfl) (show fn<s0.many.length from AV);have nc:=hmc _ (List.getElem_mem AV);have c6:=h.cell 6;simp only [List.getElem?_toArray,List.getElem?_cons_succ,List.getElem?_cons_zero] at c6;have hFg:¬FB=gm:=aa;have hgF:¬gm=FB:=aa;have G8:(0:Int)≤(fn:Int):=aa;have lD:(fn:Int)<((s0.many).length:Int):=aa;have hmg:s0.many.getD fn 0=s0.many[fn]'AV:=by simp [List.getD,List.getElem?_eq_getElem AV]
  generalize s0.many[fn]'AV=m at*;have eb:cG s0 fn={s0 with many:=s0.many.set fn (m+1)}:=by unfold cG;rw [Int.toNat_natCast,hmg]
  have ec:(cG s0 fn).many.getD fn 0=m+1:=by rw [eb];simp [List.getD,AV]
  have Hh:=hid h;have X5:bz FB p c ns.length (wk.setCell ⟨gm,fn,none⟩ (.int .i64 (m+1))) {s0 with many:=s0.many.set fn (m+1)} u0 u1 u2 u3 u4 (.slice (some ⟨gm,0,none⟩) s0.many.length cm):=Hh.out.BN rfl AV (m+1);have Lm:FP FB p c ns.length {s0 with many:=s0.many.set fn (m+1)} W (wk.setCell ⟨gm,fn,none⟩ (.int .i64 (m+1))):=HP.out.trans (X5.fp ((Below.refl FB wk).setCell (p:=⟨gm,fn,none⟩) (show FB≤gm by omega) _) (iu _ (jO (Hh.out.rows.rows 4 _ _ rfl rfl))) ai);have H3x:=hid X5;have Ln:=hid Lm;clear X5 Lm h;by_cases Qq:200<m+1
  ·exact acd
  ·have Qr:=trivial;exact ace
 ·obtain⟨s0,hs0⟩:∃s0,s0=s:=⟨_,rfl⟩;have Lj:eE ns s n fn=lC (if 200<(cG s0 fn).many.getD fn 0 then bt (cG s0 fn) n 2 else cG s0 fn) n fn:=by unfold eE;rw [wL,if_neg X1,←hs0];rfl
  have xA:s0.vars=s.vars:=by rw [hs0]
  have xB:s0.uses=s.uses:=by rw [hs0]
  have xC:s0.seen=s.seen:=by rw [hs0]
  have BM:s0.many=s.many:=by rw [hs0]
  have hmc:∀m∈s0.many,0≤m∧m≤100000:=fun m hm=>by have:=hi.counts m (by rw [←BM];exact hm);omega
  have AV:fn<s0.many.length:=by rw [BM,hi.many];exact hfn
  have X2:s0.uses.length=ns.length:=by rw [xB];exact hi.uses
  have X3:s0.vars.length≤100000:=by rw [xA];exact hsz
  have X4:s0.seen.length≤100000:=by rw [xC];exact Nat.le_trans hi.few hsz
  have Ll:n<s0.uses.length:=aa;clear xA xB xC BM;go_enter Tryz.func63,Tryz.ntmps63;go_wp2_with (go_at_call 71;refine(HB.out _).mono ?_);intro e wk hh
  first|(subst hh;intro hb)|(obtain⟨rfl,hb⟩:=hh)
  have HP:=hid (ab7.out.later hb (by have:=HF.out.lt;omega));rw [←hs0] at HP;clear hb;obtain⟨u0,u1,u2,u3,u4,u5,h⟩:=HP.out.wH;clear hs0;obtain⟨gm,cm,rfl,hgm,cmn,fmn,afP,afQ⟩:=ints_at (h.rows.rows 4 _ _ rfl rfl) (show fn<s0.many.length from AV);have nc:=hmc _ (List.getElem_mem AV);have c6:=h.cell 6;simp only [List.getElem?_toArray,List.getElem?_cons_succ,List.getElem?_cons_zero] at c6;have hFg:¬FB=gm:=aa;have hgF:¬gm=FB:=aa;have G8:(0:Int)≤(fn:Int):=aa;have lD:(fn:Int)<((s0.many).length:Int):=aa;have hmg:s0.many.getD fn 0=s0.many[fn]'AV:=by simp [List.getD,List.getElem?_eq_getElem AV]
  generalize s0.many[fn]'AV=m at*;have eb:cG s0 fn={s0 with many:=s0.many.set fn (m+1)}:=by unfold cG;rw [Int.toNat_natCast,hmg]
  have ec:(cG s0 fn).many.getD fn 0=m+1:=by rw [eb];simp [List.getD,AV]
  have Hh:=hid h;have X5:bz FB p c ns.length (wk.setCell ⟨gm,fn,none⟩ (.int .i64 (m+1))) {s0 with many:=s0.many.set fn (m+1)} u0 u1 u2 u3 u4 (.slice (some ⟨gm,0,none⟩) s0.many.length cm):=Hh.out.BN rfl AV (m+1);have Lm:FP FB p c ns.length {s0 with many:=s0.many.set fn (m+1)} W (wk.setCell ⟨gm,fn,none⟩ (.int .i64 (m+1))):=HP.out.trans (X5.fp ((Below.refl FB wk).setCell (p:=⟨gm,fn,none⟩) (show FB≤gm by omega) _) (iu _ (jO (Hh.out.rows.rows 4 _ _ rfl rfl))) ai);have H3x:=hid X5;have Ln:=hid Lm;clear X5 Lm h;by_cases Qq:200<m+1
  ·exact acd
  ·have Qs:=trivial;exact ace
end Go.Proofs.YtbgjanmheagilaaGreatDoor
/- A part of the proof. Conditions: none. -/
set_option maxRecDepth 100000
set_option maxHeartbeats 8000000
namespace Go.Proofs.YtbgjanmheagilaaGreatDoor
open Go Go.RowKit Go.Nodes
section
variable {FB:Nat} {p:Option Addr} {c L:Nat} {W:World} {s:Fs} {v0 v1 v2 v3 v4 v5:Value}
theorem ad2 {vs:List Vr} (h:W.ownsRow (FB+1) 37 4 v0 vs.length (cJ vs)) {i:Nat} (hi:i<vs.length):∃g cp,v0=.slice (some ⟨g,0,none⟩) vs.length cp∧FB+1≤g∧(∀j,j<4→W.cell? ⟨g,i*4+j,none⟩=(vs[i].cells)[j]?)∧(∀k,W.frozen? ⟨g,k,none⟩=false)∧∀cs t,W.heap[g]?=some (.cells cs t (0,0))→t=3∨t=37:=by
 rcases h.2 with⟨_,h2⟩|⟨g,cap,cur,hv,hg,hh,hn,hm,hsz,xz⟩
 ·omega
 ·refine⟨g,cap,hv,hg,fun j hj=>?_,fun k=>by simp [World.frozen?,hh],fun cs t h2=>by rw [hh] at h2;cases h2;exact .inr rfl⟩;rw [cell_of_row W g (i*4+j) cur 37 (0,0) hh,←rG vs i hi j hj,←xz,List.getElem?_take,if_pos aa];simp
theorem yF:∀(vs:List Vr) (i:Nat) (hi:i<vs.length) (j:Nat) (hj:j<4) (x':Vr) (cv:Value),x'.cells=(vs[i].cells).set j cv→cJ (vs.set i x')=(cJ vs).set (i*4+j) cv
 |x::vs,0,hi,j,hj,x',cv,h=>by
  show x'.cells++cJ vs=(x.cells++cJ vs).set (0*4+j) cv;rw [List.set_append_left _ _ (by simp [Vr.cells];omega),h];simp
 |x::vs,i+1,hi,j,hj,x',cv,h=>by
  show x.cells++cJ (vs.set i x')=(x.cells++cJ vs).set ((i+1)*4+j) cv;rw [List.set_append_right _ _ (by simp [Vr.cells];omega),show(i+1)*4+j - x.cells.length=i*4+j by simp [Vr.cells];omega,yF vs i (by simpa using hi) j hj x' cv h]
theorem aau {vs:List Vr} {g cp:Nat} (h:W.ownsRow (FB+1) 37 4 (.slice (some ⟨g,0,none⟩) vs.length cp) vs.length (cJ vs)) {i:Nat} (hi:i<vs.length) {j:Nat} (hj:j<4) (x':Vr) (cv:Value) (hx:x'.cells=(vs[i].cells).set j cv):
  (W.setCell ⟨g,i*4+j,none⟩ cv).ownsRow (FB+1) 37 4 (.slice (some ⟨g,0,none⟩) vs.length cp) (vs.set i x').length (cJ (vs.set i x')):=by
 refine⟨by rw [Js], ?_⟩;rcases h.2 with⟨h1,h2⟩|⟨g',cap,cur,hv,hg,hh,hn,hm,hsz,xz⟩
 ·cases h1
 ·cases hv;refine .inr ⟨g,cp,_,by simp,hg,bY hh _ _,by simpa using hn,hm,by simpa using hsz, ?_⟩;rw [yF vs i hi j hj x' cv hx,List.length_set,←xz,Array.toList_setIfInBounds,List.take_set]
theorem bz.T3 (h:bz FB p c L W s v0 v1 v2 v3 v4 v5) {g cp i:Nat} (hv:v0=.slice (some ⟨g,0,none⟩) s.vars.length cp) (hi:i<s.vars.length) {j:Nat} (hj:j<4) (x':Vr) (cv:Value) (hx:x'.cells=(s.vars[i].cells).set j cv):
  bz FB p c L (W.setCell ⟨g,i*4+j,none⟩ cv) {s with vars:=s.vars.set i x'} v0 v1 v2 v3 v4 v5:=by
 subst hv;exact h.Pe (fU W g _ _) (aau h.vars hi hj x' cv hx)
end
theorem Pf {l:List Int} {j:Nat} (h:j<l.length):(l.take (j+1)).reverse=l[j]::(l.take j).reverse:=by
 rw [List.take_succ_eq_append_getElem h];simp
theorem Fu (l:List Vr) (i:Nat) (h:i<l.length) (f:Vr→Vr):l.modify i f=l.set i (f l[i]):=by
 apply List.ext_getElem?;intro k;rw [List.getElem?_modify,List.getElem?_set];by_cases e:i=k
 ·subst e;simp [h]
 ·simp [e]
theorem Pg {l:List Vr} {i:Nat} (h:i<l.length):l.set i l[i]=l:=List.set_getElem_self h
theorem Vz {FB:Nat} {p:Option Addr} {c:Nat} {ns:List Nd} {W0 W:World} {s:Fs} {v0 v1 v2 v3 v4 v5:Value} (hF:bz FB p c ns.length W s v0 v1 v2 v3 v4 v5) (hi:eF ns.length s) (hN:aj W0 p ns) (h0:W0.heap.size≤FB) (hb0:Below FB W0 W) (n fn:Nat) (hn:n<ns.length) (hsz:s.vars.length≤100000) (set:Bool):
  Calls Tryz.prog 60 #[.pointer (some ⟨FB,0,none⟩),.int .i64 n,.int .i64 fn,.bool set] W fun e' w'=>e'=.returned (.tuple #[])∧FP FB p c ns.length (jy ns s n fn set) W w':=by
 have hNW:=eP (hb0.mono h0) hN;obtain⟨P,hP⟩:∃P:Int→Bool,P=fun v=>gN ns (lX s v)==gN ns n:=⟨_,rfl⟩
 have VE:jy ns s n fn set=match s.seen.reverse.find? P with|some v=>fk s n v fn set|none=>bt s n 110:=by rw [hP];rfl
 obtain⟨U,hU⟩:∃U,U=jy ns s n fn set:=⟨_,rfl⟩;rw [←hU] at VE ⊢;have Hus:=hid VE;have HN:=hid hNW;have HF:=hid hF;have HP:=hid hP;have Sj:s.seen.length≤100000:=Nat.le_trans hi.few hsz;obtain⟨Ls,JI⟩:∃Ls,Ls=s.seen.length:=⟨_,rfl⟩;obtain⟨sv,sc,EA⟩:∃sv sc,v4=.slice sv Ls sc:=by
  rcases(hF.rows.rows 3 _ _ rfl rfl).2 with⟨e1,e2⟩|⟨g,cap,cur,e1,_⟩
  ·exact⟨none,0,by rw [e1,JI,e2]⟩
  ·exact⟨_,_,by rw [JI];exact e1⟩
 have c5:W.cell? ⟨FB,5,none⟩=some (.slice sv Ls sc):=by rw [←EA];exact hF.cell 5
 have HL:=hid JI;clear VE hNW hU hP hF JI EA;have Dn:(Ls:Int)≤100000:=by rw [HL.out];omega
 go_enter Tryz.func60,Tryz.ntmps60;go_wp2;go_loopw [8] (fun iv wr=>∃(j:Nat) (iz:Int),j≤Ls∧iv=.int .i64 iz∧iz=(j:Int) - 1∧Below W.heap.size W wr∧Hid ((s.seen.take j).reverse.find? P=s.seen.reverse.find? P)) (fun iv _=>(intOf iv+1).toNat)
 case atStart=>exact⟨Ls,(Ls:Int) - 1,Nat.le_refl _,by first|rfl|go_num,rfl,by repeat (first|exact Below.refl _ _|refine bN ?_ _|refine bD ?_),hid (by rw [HL.out,List.take_length])⟩
 case round=>
  obtain⟨j,iz,hj,rfl,hiz,hB,hJ⟩:=hrel;have PL:=HF.out.later hB;have Lx:=hid PL;have HB:=hid hB;rcases j with _|j
  ·have A4:¬(0:Int)≤iz:=by omega
   have hres:U=bt s n 110:=by
    rw [Hus.out,←hJ.out];rfl
   have jT:=hid hres;clear hres PL hB;go_wp2_with (go_at_call 61;refine(uI Lx.out _ _).mono ?_);intro e w9 hh
   first|(subst hh;intro nr)|(obtain⟨rfl,nr⟩:=hh)
   have LA:=hid nr;clear nr;go_wp2;go_end0;refine⟨rfl, ?_⟩;rw [jT.out];exact((HF.out.fp (Below.refl FB W) (cA.refl FB W) (Nat.le_refl _)).later HB.out (by have:=HF.out.lt;omega)).trans LA.out
  ·have qA:j<s.seen.length:=by have:=HL.out;omega
   obtain rfl:iz=(j:Int):=aa;have xz:=Pf qA;have hJ2:=hJ.out;rw [xz] at hJ2;have qG:=hi.seen _ (List.getElem_mem qA);obtain⟨gs,scc,hgs,ama,csj,_,_,_⟩:=ints_at (PL.rows.rows 3 _ _ rfl rfl) qA;generalize s.seen[j]'qA=v at*;obtain⟨vv,rfl⟩:∃vv:Nat,v=vv:=⟨v.toNat,by omega⟩;have A9:vv<s.vars.length:=aa;obtain⟨gv,vc,hgv,amb,cvj,fvj,kv⟩:=ad2 PL.vars A9;have Dw:lX s (vv:Int)=s.vars[vv].node:=by unfold lX;rw [Int.toNat_natCast,List.getElem?_eq_getElem A9]
   have hxr:=hi.nodes _ (List.getElem_mem A9);obtain⟨q,hq⟩:∃q:Nat,s.vars[vv].node=(q:Int):=⟨(s.vars[vv].node).toNat,by omega⟩;have hql:q<ns.length:=aa;obtain⟨b,o,PI,dz,eO,_,_,k1,_,_⟩:=aY HN.out hn;obtain⟨b',o',zM,_,hqx,_,_,k2,_,_⟩:=aY HN.out hql;rw [PI] at zM;cases zM;have hPv:P (vv:Int)=((ns[q]).text.toList==(ns[n]).text.toList):=by
    rw [HP.out];show(gN ns (lX s (vv:Int))==gN ns (n:Int))=_;rw [Dw,hq];unfold gN;rw [Int.toNat_natCast,Int.toNat_natCast,hqx,eO]
   have k1':=cell_later HB.out k1;have k2':=cell_later HB.out k2;generalize (ns[q]).text=tq at*;generalize (ns[n]).text=tn at*;have d0:wr.cell? ⟨FB,0,none⟩=some (.slice (some ⟨b,o,none⟩) ns.length c):=by rw [←PI];exact Lx.out.cell 0
   have d1:wr.cell? ⟨FB,1,none⟩=some (.slice (some ⟨gv,0,none⟩) s.vars.length vc):=by rw [←hgv];exact Lx.out.cell 1
   have d5:wr.cell? ⟨FB,5,none⟩=some (.slice (some ⟨gs,0,none⟩) Ls scc):=by rw [HL.out,←hgs];exact Lx.out.cell 5
   have e0:wr.cell? ⟨gv,vv*4,none⟩=some (.int .i64 (q:Int)):=by have:=cvj 0 ay;rw [←hq];exact this
   have e1:wr.cell? ⟨gv,vv*4+1,none⟩=some (.int .i64 s.vars[vv].fn):=cvj 1 ay;have j0:(0:Int)≤(j:Int):=aa;have j1:(j:Int)<(Ls:Int):=dG;have v0':(0:Int)≤(vv:Int):=aa;have v1':(vv:Int)<(s.vars.length:Int):=aa;have q0':(0:Int)≤(q:Int):=aa;have Yo:(q:Int)<(ns.length:Int):=aa;have n0:(0:Int)≤(n:Int):=aa;have n1:(n:Int)<(ns.length:Int):=aa;have HJ2:=hid hJ2;have HPv:=hid hPv;have Hnd:=hid Dw;have Hcv:=hid cvj;clear hJ hJ2 hPv k1 k2 PL hB xz qG hxr Dw cvj hq hiz;cases hte:(tq.toList==tn.toList) with
   |false=>
    have Hte:=hid hte;go_wp2;go_quiet (fail);go_wp2;go_roundw
    case rel=>
     refine⟨j,_,by omega,rfl,by first|rfl|go_num,by repeat (first|exact HB.out|refine bN ?_ _|refine bD ?_),hid ?_⟩;have:=HJ2.out;rw [List.find?_cons_of_neg (by rw [HPv.out,Hte.out];decide)] at this;exact this
    case measure=>
     show(((j:Int) - 1)+1).toNat<((j:Int)+1).toNat;omega
   |true=>
    have F8:s.seen.reverse.find? P=some (vv:Int):=by
     rw [←HJ2.out,List.find?_cons_of_pos (by rw [HPv.out,hte])]
    have jT:Hid (U=fk s n vv fn set):=hid (by rw [Hus.out,F8]);clear F8;have ze:n<s.uses.length:=by rw [hi.uses];exact hn
    obtain⟨gu,cu,Jt,amg,cun,amh,ac2,ac3⟩:=ints_at (Lx.out.rows.rows 0 _ _ rfl rfl) ze;have d2:wr.cell? ⟨FB,2,none⟩=some (.slice (some ⟨gu,0,none⟩) s.uses.length cu):=by rw [←Jt];exact Lx.out.cell 2
    have nl1:(n:Int)<(s.uses.length:Int):=aa;have hFu:¬FB=gu:=aa;have huF:¬gu=FB:=aa;have hFv:¬FB=gv:=aa;have hvF:¬gv=FB:=aa;have huv:¬gu=gv:=fun e=>qi (Lx.out.rows.rows 0 _ _ rfl rfl) Lx.out.vars gu (by rw [Jt];rfl) (by rw [hgv,e];rfl)
    have tE:¬gv=gu:=fun e=>huv e.symm
    have e2:wr.cell? ⟨gv,vv*4+2,none⟩=some (.bool s.vars[vv].taken):=Hcv.out 2 ay;have e3:wr.cell? ⟨gv,vv*4+3,none⟩=some (.bool s.vars[vv].set):=Hcv.out 3 ay;have f0v:=fvj (vv*4+2);have f1v:=fvj (vv*4+3);have ad3:∀b,fk s n vv fn b={s with uses:=s.uses.set n (vv:Int),vars:=s.vars.set vv {s.vars[vv] with taken:=s.vars[vv].taken||(s.vars[vv].fn !=fn),set:=s.vars[vv].set||b}}:=fun b=>by
     unfold fk;rw [Int.toNat_natCast,Int.toNat_natCast,Fu _ _ A9]
    have HTK:=hid ad3;have Hgu:=hid Jt;have Hgv:=hid hgv;clear ad3 Jt hgv Lx;go_wp2;go_quiet (fail);rename_i nq;have hFq:=HF.out.later (HB.out.trans ((below_drewN wr nq).mono HB.out.size));have aav:FP FB p c ns.length s W (wr.drewN nq):=(HF.out.fp (Below.refl FB W) (cA.refl FB W) (Nat.le_refl _)).later (HB.out.trans ((below_drewN wr nq).mono HB.out.size)) (by have:=HF.out.lt;omega);obtain⟨wq,PM⟩:∃wq,wq=wr.drewN nq:=⟨_,rfl⟩;rw [←PM] at hFq aav;have HP1:Hid (FP FB p c ns.length {s with uses:=s.uses.set n (vv:Int)} W (wq.setCell ⟨gu,n,none⟩ (.int .i64 vv))∧bz FB p c ns.length (wq.setCell ⟨gu,n,none⟩ (.int .i64 vv)) {s with uses:=s.uses.set n (vv:Int)} v0 v1 v2 v3 v4 v5):=hid ⟨aav.trans ((hFq.qg Hgu.out ze (vv:Int)).fp ((Below.refl FB wq).setCell (p:=⟨gu,n,none⟩) (show FB≤gu by omega) _) (iu _ (jO (by have:=hFq.rows.rows 0 _ _ rfl rfl;rw [Hgu.out] at this;exact this))) ai),hFq.qg Hgu.out ze (vv:Int)⟩;clear hFq aav;have HVS:∀(w2:World) (s2:Fs) (x2 x':Vr) (j:Nat) (cv:Value),j<4→FP FB p c ns.length s2 W w2∧bz FB p c ns.length w2 s2 v0 v1 v2 v3 v4 v5→s2.vars.length=s.vars.length→s2.vars[vv]?=some x2→x'.cells=(x2.cells).set j cv→FP FB p c ns.length {s2 with vars:=s2.vars.set vv x'} W (w2.setCell ⟨gv,vv*4+j,none⟩ cv)∧bz FB p c ns.length (w2.setCell ⟨gv,vv*4+j,none⟩ cv) {s2 with vars:=s2.vars.set vv x'} v0 v1 v2 v3 v4 v5:=by
     intro w2 s2 x2 x' j cv hj hp hlen hx2 za;have hv2:vv<s2.vars.length:=by rw [hlen];exact A9
     rw [List.getElem?_eq_getElem hv2] at hx2;have hF2:=hp.2.T3 (i:=vv) (j:=j) (by rw [hlen];exact Hgv.out) hv2 hj x' cv (by rw [Option.some.inj hx2];exact za);refine⟨hp.1.trans (hF2.fp ((Below.refl FB w2).setCell (p:=⟨gv,vv*4+j,none⟩) (show FB≤gv by omega) _) (iu _ fun cs t hh=>?_) ai),hF2⟩;obtain⟨cc,fz,h2⟩:=Lib.ownsRow_kind hp.2.vars gv (by rw [Hgv.out];rfl);rw [hh] at h2;cases h2;exact .inr rfl
    have HVS:=hid HVS;rw [PM] at HP1;clear PM;by_cases hfq:s.vars[vv].fn=fn
    ·rw [hfq] at e1;have hbf:(s.vars[vv].fn !=(fn:Int))=false:=by simp [hfq]
     cases set with
     |false=>
      have hst:Hid (fk s n vv fn false={s with uses:=s.uses.set n (vv:Int)}):=hid (by
       rw [HTK.out,hbf];simp only [Bool.or_false];congr 1;exact Pg A9)
      clear hbf;go_wp2
      try simp only [Exit.inBlock,Exit.then]
      refine bodyPost_ret (results_none rfl _ _ _) rfl ?_;refine⟨rfl, ?_⟩;rw [jT.out,hst.out];exact HP1.out.1
     |true=>
      have hst:Hid (fk s n vv fn true={s with uses:=s.uses.set n (vv:Int),vars:=s.vars.set vv {s.vars[vv] with set:=true}}):=hid (by
       rw [HTK.out,hbf];simp only [Bool.or_false,Bool.or_true])
      clear hbf;go_wp2
      try simp only [Exit.inBlock,Exit.then]
      refine bodyPost_ret (results_none rfl _ _ _) rfl ?_;refine⟨rfl, ?_⟩;rw [jT.out,hst.out];have cP:=(HVS.out _ {s with uses:=s.uses.set n (vv:Int)} s.vars[vv] {s.vars[vv] with set:=true} 3 (.bool true) ay HP1.out rfl (List.getElem?_eq_getElem A9) rfl).1
      first|exact cP|(rw [PI] at cP;exact cP)
    ·have amj:¬(fn:Int)=s.vars[vv].fn:=fun e=>hfq e.symm
     have X1:(s.vars[vv].fn !=(fn:Int))=true:=by simpa using hfq
     cases set with
     |false=>
      have hst:Hid (fk s n vv fn false={s with uses:=s.uses.set n (vv:Int),vars:=s.vars.set vv {s.vars[vv] with taken:=true}}):=hid (by
       rw [HTK.out,X1];simp only [Bool.or_false,Bool.or_true])
      clear X1;go_wp2
      try simp only [Exit.inBlock,Exit.then]
      refine bodyPost_ret (results_none rfl _ _ _) rfl ?_;refine⟨rfl, ?_⟩;rw [jT.out,hst.out];have cP:=(HVS.out _ {s with uses:=s.uses.set n (vv:Int)} s.vars[vv] {s.vars[vv] with taken:=true} 2 (.bool true) ay HP1.out rfl (List.getElem?_eq_getElem A9) rfl).1
      first|exact cP|(rw [PI] at cP;exact cP)
     |true=>
      have hst:Hid (fk s n vv fn true={s with uses:=s.uses.set n (vv:Int),vars:=(s.vars.set vv {s.vars[vv] with taken:=true}).set vv {s.vars[vv] with taken:=true,set:=true}}):=hid (by
       rw [HTK.out,X1,List.set_set];simp only [Bool.or_true])
      clear X1;go_wp2
      try simp only [Exit.inBlock,Exit.then]
      refine bodyPost_ret (results_none rfl _ _ _) rfl ?_;refine⟨rfl, ?_⟩;rw [jT.out,hst.out];have hq:=HVS.out _ {s with uses:=s.uses.set n (vv:Int)} s.vars[vv] {s.vars[vv] with taken:=true} 2 (.bool true) ay HP1.out rfl (List.getElem?_eq_getElem A9) rfl;have cP:=(HVS.out _ _ {s.vars[vv] with taken:=true} {s.vars[vv] with taken:=true,set:=true} 3 (.bool true) ay hq ai (by simp [A9]) rfl).1
      first|exact cP|(rw [PI] at cP;exact cP)
end Go.Proofs.YtbgjanmheagilaaGreatDoor
/- A part of the proof. Conditions: none. -/
set_option maxRecDepth 100000
set_option maxHeartbeats 8000000
namespace Go.Proofs.YtbgjanmheagilaaGreatDoor
open Go Go.RowKit Go.Nodes
section
variable {FB:Nat} {p:Option Addr} {c L:Nat} {W:World} {s:Fs} {v0 v1 v2 v3 v4 v5:Value} {n up:Int}
structure fV (FB:Nat) (p:Option Addr) (c L:Nat) (s:Fs) (v0 v1 v2 v3 v4 v5:Value) (n up:Int) (WX:World) (f:Nat→Bool) (ca:Act) (w:World):Prop where
 below:Below FB WX w
 keep:cA FB WX w
 size:WX.heap.size≤w.heap.size
 len:51<ca.tmps.size
 heap:w.heap[FB]?=some (.cells #[.slice p L c,v0,v1,bif f 28 then ca.tmps.getD 29 undef else v2,bif f 32 then ca.tmps.getD 37 undef else v3,v4,v5,.int .i64 s.aT,.int .i64 s.e] 61 (0,0))
 rows:gH (FB+1) w [v1,bif f 10 then ca.tmps.getD 29 undef else v2,bif f 18 then ca.tmps.getD 37 undef else v3,v4,bif f 24 then ca.tmps.getD 43 undef else v5] [s.uses,bif f 10 then s.funcs++[n] else s.funcs,bif f 18 then s.jh++[up] else s.jh,s.seen,bif f 24 then s.many++[0] else s.many]
 vars:w.ownsRow (FB+1) 37 4 v0 s.vars.length (cJ s.vars)
theorem upd_ne {f:Nat→Bool} {j k:Nat} (h:j≠k):(if j=k then true else f j)=f j:=if_neg h
theorem fV.put {WX w:World} {f:Nat→Bool} {ca:Act} (h:fV FB p c L s v0 v1 v2 v3 v4 v5 n up WX f ca w) {k:Nat} {d:Tmp} {v:Value} (hk:10≠k∧18≠k∧24≠k∧28≠k∧32≠k) (hd:d≠29∧d≠37∧d≠43):fV FB p c L s v0 v1 v2 v3 v4 v5 n up WX (fun j=>if j=k then true else f j) (ca.put (some d) v) w:=by
 obtain⟨k1,k2,k3,k4,k5⟩:=hk;obtain⟨d1,d2,d3⟩:=hd;refine⟨h.below,h.keep,h.size,by simpa [Act.put] using h.len, ?_, ?_,h.vars⟩
 ·simp only [upd_ne k4,upd_ne k5,Am.aX d1,Am.aX d2];exact h.heap
 ·simp only [upd_ne k1,upd_ne k2,upd_ne k3,Am.aX d1,Am.aX d2,Am.aX d3];exact h.rows
theorem fV.alloc {WX w:World} {f:Nat→Bool} {ca:Act} (h:fV FB p c L s v0 v1 v2 v3 v4 v5 n up WX f ca w) (JO:FB≤WX.heap.size) (o:Obj):fV FB p c L s v0 v1 v2 v3 v4 v5 n up WX f ca (w.alloc o):=by
 have hb:Below w.heap.size w (w.alloc o):=(Below.refl _ _).alloc (Nat.le_refl _) o;have hs:=h.size;exact⟨h.below.trans (hb.mono aa),h.keep.trans (bW hb),Nat.le_trans hs hb.size,h.len,by rw [hb.block FB (Array.getElem?_eq_some_iff.1 h.heap).1];exact h.heap,h.rows.later hb,cC h.vars hb⟩
theorem fV.grow {WX w w':World} {f:Nat→Bool} {ca:Act} (h:fV FB p c L s v0 v1 v2 v3 v4 v5 n up WX f ca w) (JO:FB≤WX.heap.size) (j:Nat) {v v':Value} {l l':List Int} {xs:List Value} {ls:List (List Int)} (hr:gH (FB+1) w xs ls) (hj:xs[j]?=some v) (hl:ls[j]?=some l) (hg:w.grownBy w' v.ownBlock) (hown:Ints (FB+1) w' v' l') (AW:v'.ownBlock=v.ownBlock∨v'.ownBlock=some w.heap.size):
  Below FB WX w'∧cA FB WX w'∧WX.heap.size≤w'.heap.size∧w'.heap[FB]?=w.heap[FB]?∧gH (FB+1) w' (xs.set j v') (ls.set j l')∧w'.ownsRow (FB+1) 37 4 v0 s.vars.length (cJ s.vars):=by
 have hI:=hr.rows j _ _ hj hl;have hne:=zH hI h.heap ay;have zI:∀k,v.ownBlock=some k→FB≤k:=fun k hk=>by have:=(hI.lt k hk).1;omega
 refine⟨h.below.grown hg (by have:=h.size;omega) zI,h.keep.trans (mh hI hg),Nat.le_trans h.size hg.size,hg.block FB (Array.getElem?_eq_some_iff.1 h.heap).1 (fun e=>hne e.symm),hr.put j hj hg hown AW,h.vars.kept hg ?_⟩;exact Lp
theorem fV.acf {WX w w':World} {f:Nat→Bool} {ca:Act} {v':Value} (h:fV FB p c L s v0 v1 v2 v3 v4 v5 n up WX f ca w) (JO:FB≤WX.heap.size) (hf:f 10=false) (hf2:f 28=false) (hg:w.grownBy w' v2.ownBlock) (hown:Ints (FB+1) w' v' (s.funcs++[n])) (AW:v'.ownBlock=v2.ownBlock∨v'.ownBlock=some w.heap.size):
  fV FB p c L s v0 v1 v2 v3 v4 v5 n up WX (fun j=>if j=10 then true else f j) (ca.put (some 29) v') w':=by
 have hr:=h.rows;rw [hf] at hr;obtain⟨a1,a2,a3,a4,a5,a6⟩:=h.grow JO 1 hr rfl rfl hg hown AW;refine⟨a1,a2,a3,by simpa [Act.put] using h.len, ?_, ?_,a6⟩
 ·rw [a4,h.heap];simp only [upd_ne (show(28:Nat)≠10 by decide),upd_ne (show(32:Nat)≠10 by decide),hf2,cond_false,Am.aX (show(29:Tmp)≠37 by decide)];rfl
 ·simp only [upd_ne (show(18:Nat)≠10 by decide),upd_ne (show(24:Nat)≠10 by decide),if_true,cond_true,Am.aX (show(29:Tmp)≠37 by decide),Am.aX (show(29:Tmp)≠43 by decide),Am.jk (show 29<ca.tmps.size by have:=h.len;omega)];exact a5
theorem fV.acg {WX w w':World} {f:Nat→Bool} {ca:Act} {v':Value} (h:fV FB p c L s v0 v1 v2 v3 v4 v5 n up WX f ca w) (JO:FB≤WX.heap.size) (hf:f 18=false) (hf2:f 32=false) (hg:w.grownBy w' v3.ownBlock) (hown:Ints (FB+1) w' v' (s.jh++[up])) (AW:v'.ownBlock=v3.ownBlock∨v'.ownBlock=some w.heap.size):
  fV FB p c L s v0 v1 v2 v3 v4 v5 n up WX (fun j=>if j=18 then true else f j) (ca.put (some 37) v') w':=by
 have hr:=h.rows;rw [hf] at hr;obtain⟨a1,a2,a3,a4,a5,a6⟩:=h.grow JO 2 hr rfl rfl hg hown AW;refine⟨a1,a2,a3,by simpa [Act.put] using h.len, ?_, ?_,a6⟩
 ·rw [a4,h.heap];simp only [upd_ne (show(28:Nat)≠18 by decide),upd_ne (show(32:Nat)≠18 by decide),hf2,cond_false,Am.aX (show(37:Tmp)≠29 by decide)];rfl
 ·simp only [upd_ne (show(10:Nat)≠18 by decide),upd_ne (show(24:Nat)≠18 by decide),if_true,cond_true,Am.aX (show(37:Tmp)≠29 by decide),Am.aX (show(37:Tmp)≠43 by decide),Am.jk (show 37<ca.tmps.size by have:=h.len;omega)];exact a5
theorem fV.ach {WX w w':World} {f:Nat→Bool} {ca:Act} {v':Value} (h:fV FB p c L s v0 v1 v2 v3 v4 v5 n up WX f ca w) (JO:FB≤WX.heap.size) (hf:f 24=false) (hg:w.grownBy w' v5.ownBlock) (hown:Ints (FB+1) w' v' (s.many++[0])) (AW:v'.ownBlock=v5.ownBlock∨v'.ownBlock=some w.heap.size):
  fV FB p c L s v0 v1 v2 v3 v4 v5 n up WX (fun j=>if j=24 then true else f j) (ca.put (some 43) v') w':=by
 have hr:=h.rows;rw [hf] at hr;obtain⟨a1,a2,a3,a4,a5,a6⟩:=h.grow JO 4 hr rfl rfl hg hown AW;refine⟨a1,a2,a3,by simpa [Act.put] using h.len, ?_, ?_,a6⟩
 ·rw [a4,h.heap];simp only [upd_ne (show(28:Nat)≠24 by decide),upd_ne (show(32:Nat)≠24 by decide),Am.aX (show(43:Tmp)≠29 by decide),Am.aX (show(43:Tmp)≠37 by decide)]
 ·simp only [upd_ne (show(10:Nat)≠24 by decide),upd_ne (show(18:Nat)≠24 by decide),if_true,cond_true,Am.aX (show(43:Tmp)≠29 by decide),Am.aX (show(43:Tmp)≠37 by decide),Am.jk (show 43<ca.tmps.size by have:=h.len;omega)];exact a5
theorem ir {w:World} {xs:List Value} {ls:List (List Int)} (h:gH (FB+1) w xs ls) (i:Nat) (x:Value):gH (FB+1) (w.setCell ⟨FB,i,none⟩ x) xs ls:=⟨h.len,fun k v l a b=>ct (h.rows k v l a b) _ aa,h.apart⟩
theorem fV.aci {WX w:World} {f:Nat→Bool} {ca:Act} (h:fV FB p c L s v0 v1 v2 v3 v4 v5 n up WX f ca w) {x:Value} (hx:ca.tmps.getD 29 undef=x) (v:Value):fV FB p c L s v0 v1 v2 v3 v4 v5 n up WX (fun j=>if j=28 then true else f j) (ca.put none v) (w.setCell ⟨FB,3,none⟩ x):=by
 refine⟨h.below.setCell (p:=⟨FB,3,none⟩) (Nat.le_refl _) _,h.keep.trans (cE 3 _),by simpa using h.size,h.len, ?_, ?_,h.vars.kept (fU w FB 3 x) (.inr (fA h.vars h.heap ay))⟩
 ·rw [bY h.heap _ _];simp only [upd_ne (show(32:Nat)≠28 by decide),if_true,cond_true,Act.put,hx];rfl
 ·simp only [upd_ne (show(10:Nat)≠28 by decide),upd_ne (show(18:Nat)≠28 by decide),upd_ne (show(24:Nat)≠28 by decide)];exact ir h.rows 3 x
theorem fV.acj {WX w:World} {f:Nat→Bool} {ca:Act} (h:fV FB p c L s v0 v1 v2 v3 v4 v5 n up WX f ca w) {x:Value} (hx:ca.tmps.getD 37 undef=x) (v:Value):fV FB p c L s v0 v1 v2 v3 v4 v5 n up WX (fun j=>if j=32 then true else f j) (ca.put none v) (w.setCell ⟨FB,4,none⟩ x):=by
 refine⟨h.below.setCell (p:=⟨FB,4,none⟩) (Nat.le_refl _) _,h.keep.trans (cE 4 _),by simpa using h.size,h.len, ?_, ?_,h.vars.kept (fU w FB 4 x) (.inr (fA h.vars h.heap ay))⟩
 ·rw [bY h.heap _ _];simp only [upd_ne (show(28:Nat)≠32 by decide),if_true,cond_true,Act.put,hx];rfl
 ·simp only [upd_ne (show(10:Nat)≠32 by decide),upd_ne (show(18:Nat)≠32 by decide),upd_ne (show(24:Nat)≠32 by decide)];exact ir h.rows 4 x
theorem fV.done {WX w:World} {f:Nat→Bool} {ca:Act} (h:fV FB p c L s v0 v1 v2 v3 v4 v5 n up WX f ca w) (hall:∀i,i<33→f i=true):bz FB p c L (w.setCell ⟨FB,6,none⟩ (ca.tmps.getD 43 undef)) {s with funcs:=s.funcs++[n],jh:=s.jh++[up],many:=s.many++[0]} v0 v1 (ca.tmps.getD 29 undef) (ca.tmps.getD 37 undef) v4 (ca.tmps.getD 43 undef):=by
 have h1:=h.heap;have h2:=h.rows;rw [hall 28 ay,hall 32 ay] at h1;rw [hall 10 ay,hall 18 ay,hall 24 ay] at h2;refine⟨by rw [bY h1 _ _];rfl,ir h2 6 _,h.vars.kept (fU w FB 6 _) (.inr (fA h.vars h1 ay))⟩
end
def Qt (FB N0:Nat) (v2 v3 v5:Value) (n up:Int):Nat→World→Value→Prop
 |0,w,v=>v=.pointer (some ⟨FB,0,none⟩)
 |1,w,v=>v=.pointer (some ⟨FB,0,none⟩)
 |2,w,v=>v=.pointer (some ⟨FB,0,none⟩)
 |3,w,v=>v=.pointer (some ⟨FB,0,none⟩)
 |4,w,v=>v=.pointer (some ⟨FB,0,none⟩)
 |5,w,v=>v=.pointer (some ⟨FB,1,none⟩)
 |6,w,v=>v=.pointer (some ⟨FB,3,none⟩)
 |7,w,v=>v=v2
 |8,w,v=>v=.int .i64 n
 |9,w,v=>∃U:Nat,v=.slice (some ⟨U,0,none⟩) 1 1∧N0≤U∧w.heap[U]?=some (.cells #[.int .i64 n] 3 (0,0))
 |10,w,v=>∃(a:Option Addr) (k1 k2:Nat),v=.slice a k1 k2
 |11,w,v=>v=.pointer (some ⟨FB,0,none⟩)
 |12,w,v=>v=.pointer (some ⟨FB,0,none⟩)
 |13,w,v=>v=.pointer (some ⟨FB,1,none⟩)
 |14,w,v=>v=.pointer (some ⟨FB,4,none⟩)
 |15,w,v=>v=v3
 |16,w,v=>v=.int .i64 up
 |17,w,v=>∃U:Nat,v=.slice (some ⟨U,0,none⟩) 1 1∧N0≤U∧w.heap[U]?=some (.cells #[.int .i64 up] 3 (0,0))
 |18,w,v=>∃(a:Option Addr) (k1 k2:Nat),v=.slice a k1 k2
 |19,w,v=>v=.pointer (some ⟨FB,0,none⟩)
 |20,w,v=>v=.pointer (some ⟨FB,0,none⟩)
 |21,w,v=>v=.pointer (some ⟨FB,6,none⟩)
 |22,w,v=>v=v5
 |23,w,v=>∃U:Nat,v=.slice (some ⟨U,0,none⟩) 1 1∧N0≤U∧w.heap[U]?=some (.cells #[.int .i64 0] 3 (0,0))
 |24,w,v=>∃(a:Option Addr) (k1 k2:Nat),v=.slice a k1 k2
 |25,w,v=>v=.pointer (some ⟨FB,0,none⟩)
 |26,w,v=>v=.pointer (some ⟨FB,1,none⟩)
 |27,w,v=>v=.pointer (some ⟨FB,3,none⟩)
 |28,w,v=>True
 |29,w,v=>v=.pointer (some ⟨FB,0,none⟩)
 |30,w,v=>v=.pointer (some ⟨FB,1,none⟩)
 |31,w,v=>v=.pointer (some ⟨FB,4,none⟩)
 |_,w,v=>True
theorem wp_skip {o:Oper} {ca:Act} {w w':World} {K:Act→World→Prop} {Q:Exit→Act→World→Prop} (h:(execOp ca.eval o).run Tryz.prog w=.ok .skip w') (hk:K (ca.put o.dst undef) w'):o.wp Tryz.prog ca w K Q:=by
 unfold Oper.wp;rw [h];exact hk
def BO (N0:Nat) (_:Nat) (w w':World):Prop:=∀g,N0≤g→g<w.heap.size→w'.heap[g]?=w.heap[g]?
theorem mq {N0 i:Nat} (w:World) (o:Obj):BO N0 i w (w.alloc o):=fun g _ h=>by
 exact((Below.refl w.heap.size w).alloc (Nat.le_refl _) o).block g h
theorem mz {N0 i:Nat} {w w':World} {v:Value} (hg:w.grownBy w' v.ownBlock) (hl:∀g,v.ownBlock=some g→g<N0):BO N0 i w w':=fun g h1 h2=>hg.block g h2 fun e=>by have:=hl g e.symm;omega
theorem xD {FB N0 i k:Nat} (hF:FB<N0) (w:World) (x:Value):BO N0 i w (w.setCell ⟨FB,k,none⟩ x):=fun g h1 _=>Below.heap_setCell _ _ _ _ (show g≠FB by omega)
theorem Im {FB N0:Nat} {v2 v3 v5:Value} {n up:Int}:∀(i j:Nat) (w w':World) (v:Value),i≠j→(fun _ _=>false:Nat→Nat→Bool) i j=false→BO N0 i w w'→Qt FB N0 v2 v3 v5 n up j w v→Qt FB N0 v2 v3 v5 n up j w' v:=by
 intro i j w w' v _ _ hS h;unfold Qt at*;split at h<;>first|exact h|exact(fun⟨U,e,hN,hh⟩=>⟨U,e,hN,(hS U hN (Array.getElem?_eq_some_iff.1 hh).1).trans hh⟩) h
theorem mo {B:Nat} {w:World} {v:Value} {l:List Int} (h:Ints B w v l) {k:Nat} (hk:k≤l.length):∃sv sc,v=.slice sv l.length sc∧k≤sc∧sc≤maxLen∧Ints B w (.slice sv k sc) (l.take k):=by
 have hl:(l.take k).length=k:=pP;rcases h.2 with⟨h1,h2⟩|⟨g,cap,cur,hv,hg,hh,hn,hm,hsz,xz⟩
 ·refine⟨none,0,by rw [h1,h2],by omega,by unfold maxLen;omega, ?_⟩;obtain rfl:k=0:=aa;exact⟨rfl,.inl ⟨rfl,rfl⟩⟩
 ·refine⟨_,cap,hv,by omega,hm,by rw [hl];simp;omega,.inr ⟨g,cap,cur,by rw [hl],hg,hh,by rw [hl];omega,hm,hsz, ?_⟩⟩;rw [hl,List.map_take,←xz,List.take_take];congr 1;omega
theorem kE (ns:List Nd) (s:Fs) (n fn:Int):(eE ns s n fn).funcs=s.funcs:=by
 have key:∀t:Fs,t.funcs=s.funcs→(lC (if 200<(cG t fn).many.getD fn.toNat 0 then bt (cG t fn) n 2 else cG t fn) n fn).funcs=s.funcs:=fun t h=>by
  show(if 200<(cG t fn).many.getD fn.toNat 0 then bt (cG t fn) n 2 else cG t fn).funcs=s.funcs;split
  ·rw [(dK (cG t fn) n 2).2.2.1];exact h
  ·exact h
 unfold eE;simp only;split
 ·exact key _ (dK s n 110).2.2.1
 ·exact key _ rfl
def mA (FB:Nat) (p:Option Addr) (c:Nat) (ns:List Nd) (W0:World) (k q:Nat):Prop:=∀(fn:Nat) (loop:Bool) (W:World) (s:Fs),Lr FB p c ns.length W s→eF ns.length s→Below FB W0 W→fn<s.funcs.length→s.vars.length+wt ns q≤100000→s.funcs.length+wt ns q≤100000→
 Calls Tryz.prog 31 #[.pointer (some ⟨FB,0,none⟩),.int .i64 q,.int .i64 fn,.bool loop] W fun e' w'=>e'=.returned (.tuple #[])∧FP FB p c ns.length (aH ns k q fn loop s) W w'
theorem Eu {FB:Nat} {p:Option Addr} {c:Nat} {ns:List Nd} {W0 W:World} {s:Fs} {v0 v1 v2 v3 v4 v5:Value} (ht:Tree ns) (hF:bz FB p c ns.length W s v0 v1 v2 v3 v4 v5) (hi:eF ns.length s) (hN:aj W0 p ns) (bL:∀x∈ns,x.kids.length≤x.aC) (h0:W0.heap.size≤FB) (hb0:Below FB W0 W) (k n:Nat) (up:Int) (Lt:n≤k) (hn:n<ns.length) (hk2:2≤(aF ns (n:Int)).length)
  (hsz:s.vars.length+wt ns n≤100000) (AX:s.funcs.length+wt ns n≤100000) (IH:∀q,q<n→mA FB p c ns W0 k q):
  Calls Tryz.prog 62 #[.pointer (some ⟨FB,0,none⟩),.int .i64 n,.int .i64 up] W fun e' w'=>e'=.returned (.tuple #[])∧FP FB p c ns.length (pK ns (aH ns k) n up s) W w':=by
 have aks:s.jh.length≤100000:=by rw [hi.jh];omega
 have ahW:s.many.length≤100000:=by rw [hi.many];omega
 have afS:s.funcs.length≤100000:=aa;have ahX:s.seen.length≤100000:=Nat.le_trans hi.few aa;obtain⟨sv2,sc2,ack⟩:∃sv sc,v2=.slice sv s.funcs.length sc:=by
  rcases(hF.rows.rows 1 _ _ rfl rfl).2 with⟨e1,e2⟩|⟨g,cap,cur,e1,_⟩
  ·exact⟨none,0,by rw [e1,e2]⟩
  ·exact⟨_,_,e1⟩
 obtain⟨sv4,sc4,Lu⟩:∃sv sc,v4=.slice sv s.seen.length sc:=by
  rcases(hF.rows.rows 3 _ _ rfl rfl).2 with⟨e1,e2⟩|⟨g,cap,cur,e1,_⟩
  ·exact⟨none,0,by rw [e1,e2]⟩
  ·exact⟨_,_,e1⟩
 have c3:W.cell? ⟨FB,3,none⟩=some (.slice sv2 s.funcs.length sc2):=by rw [←ack];exact hF.cell 3
 have acm:∀g,v2.ownBlock=some g→g<W.heap.size:=fun g e=>((hF.rows.rows 1 _ _ rfl rfl).lt g e).2
 have acn:∀g,v3.ownBlock=some g→g<W.heap.size:=fun g e=>((hF.rows.rows 2 _ _ rfl rfl).lt g e).2
 have aco:∀g,v5.ownBlock=some g→g<W.heap.size:=fun g e=>((hF.rows.rows 4 _ _ rfl rfl).lt g e).2
 have hFN:FB<W.heap.size:=hF.lt;have zL:FB≤W.heap.size:=aa;have Ew:∀ca,51<ca.tmps.size→fV FB p c ns.length s v0 v1 v2 v3 v4 v5 n up W (fun _=>false) ca W.drew:=fun ca jM=>⟨(Below.refl _ _).drew,bW (Below.refl _ _).drew,Nat.le_refl _,jM,hF.heap,hF.rows.later (Below.refl _ _).drew,cC hF.vars (Below.refl _ _).drew⟩
 have HF:=hid hF;have HN:=hid hN;have HC:=hid bL;have Hi:=hid hi;have afV:=hid Lu;clear hF hN hi Lu ack bL;go_enter Tryz.func62,Tryz.ntmps62;go_wp2;refine wp_region_any ak ?_;refine Am.di _ 35 rfl ak ?_;simp only [List.take_succ_cons,List.take_zero];refine Am.di _ 34 rfl ak ?_;simp only [List.take_succ_cons,List.take_zero];refine Am.di _ 33 rfl ak ?_;simp only [List.take_succ_cons,List.take_zero];refine Am.ew (Φ:=Qt FB W.heap.size v2 v3 v5 (n:Int) up) (I:=fV FB p c ns.length s v0 v1 v2 v3 v4 v5 n up W) (S:=BO W.heap.size) ak ak (fun _ _=>false) (fun z=>by unfold Am.nt;exact List.all_eq_true.2 fun _ _=>rfl) Im ?_ ?_ _ (Ew _ (Nat.le_of_ble_eq_true rfl))
 ·intro kq o ca w1 f ho hI XY hbh aJ K hK;have hfn:∀f,ca.eval (.func f)=.func (.func f) #[] #[]:=fun _=>rfl
  have hcs:∀v,ca.eval (.const v)=v:=fun _=>rfl
  rcases kq with _|_|_|_|_|_|_|_|_|_|_|_|_|_|_|_|_|_|_|_|_|_|_|_|_|_|_|_|_|_|_|_|_|kq
  ·exact xE
  ·exact xE
  ·exact xE
  ·exact xE
  ·cases ho;have dw:=Am.lk 22 3 aJ fun _=>rfl
   exact ep
  ·cases ho;have dw:=Am.lk 23 4 aJ fun _=>rfl
   exact ep
  ·cases ho;have dw:=Am.lk 24 5 aJ fun _=>rfl
   exact ep
  ·cases ho;have dw:=Am.lk 25 6 aJ fun _=>rfl
   have hc3:w1.cell? ⟨FB,3,none⟩=some v2:=by
    have hf2:f 28=false:=hbh 28 ak;have:=hI.heap;rw [hf2] at this;simp [World.cell?,this]
   refine Am.rv rfl rfl (hK _ _ (hI.put ay ay) (fun _ _ _=>rfl) rfl) ?_;generalize ca.eval=ev at*;simp [go_sem,execOp,hfn,hcs,dw,hc3]
  ·cases ho;have dw:=Am.lo 1 aJ rfl;exact ep
  ·cases ho;have dw:=Am.lk 27 8 aJ fun _=>rfl
   refine Am.cq rfl rfl (Am.dx (v:=.slice (some ⟨w1.heap.size,0,none⟩) 1 1) (w':=w1.alloc (.cells #[.int .i64 n] 3)) ?_ (hK _ _ ((hI.alloc zL _).put (k:=9) ay ay) (mq _ _) ⟨w1.heap.size,rfl,hI.size,heap_alloc_new _ _⟩));exact Ex
  ·cases ho;have dw:=Am.lk 26 7 aJ fun _=>rfl
   have h28:∃U:Nat,(ca.tmps.getD 28 undef)=.slice (some ⟨U,0,none⟩) 1 1∧W.heap.size≤U∧w1.heap[U]?=some (.cells #[.int .i64 (n:Int)] 3 (0,0)):=Am.kF (j:=9) aJ ak rfl rfl;obtain⟨U,eU,hN0,hU⟩:=h28;have hb':=Am.jP eU;have Lv:f 10=false:=XY;have hf2:f 28=false:=hbh 28 ak;have JN:=hI.rows;rw [Lv] at JN;have hrow:=JN.rows 1 _ _ rfl rfl;obtain⟨iI,Ei,Ej,Ek,El⟩:=info_parts Tryz.uo;obtain⟨v',w',hr,g2,g3,g4⟩:=cY (P:=Tryz.prog) w1 (FB+1) 28 28 3 iI (.int .i64 0) 1 8 Tryz.underlying28 Ei Ej Ek El rfl ay v2 s.funcs.length (s.funcs.map (Value.int .i64)) hrow ⟨U,0,none⟩ 1 1 ay [.int .i64 ((n:Int))] ai
    (fun j q hj=>by
     cases j with
     |zero=>simp at hj;subst hj;simp [Addr.add,World.cell?,hU]
     |succ j=>simp at hj) (fun q hq=>by simp at hq;subst hq;rfl) kT aa (by have:=hI.size;omega)
   have Qu:Ints (FB+1) w' v' (s.funcs++[(n:Int)]):=Gg;obtain⟨sa,Qv,Qw,D7⟩:∃(a:Option Addr) (k1 k2:Nat),v'=.slice a k1 k2:=by
    exact Ey
   refine Am.cq rfl rfl (Am.dx (v:=v') (w':=w') ?_ (hK _ _ (hI.acf zL Lv hf2 g3 Qu g4) (mz g3 acm) ⟨sa,Qv,Qw,D7⟩));exact Ez
  ·exact xE
  ·cases ho;have dw:=Am.lk 30 11 aJ fun _=>rfl
   exact ep
  ·cases ho;have dw:=Am.lk 31 12 aJ fun _=>rfl
   exact ep
  ·cases ho;have dw:=Am.lk 32 13 aJ fun _=>rfl
   exact ep
  ·cases ho;have dw:=Am.lk 33 14 aJ fun _=>rfl
   have hc4:w1.cell? ⟨FB,4,none⟩=some v3:=by
    have hf2:f 32=false:=hbh 32 ak;have:=hI.heap;rw [hf2] at this;simp [World.cell?,this]
   refine Am.rv rfl rfl (hK _ _ (hI.put ay ay) (fun _ _ _=>rfl) rfl) ?_;generalize ca.eval=ev at*;simp [go_sem,execOp,hfn,hcs,dw,hc4]
  ·cases ho;have dw:=Am.lo 2 aJ rfl;exact ep
  ·cases ho;have dw:=Am.lk 35 16 aJ fun _=>rfl
   refine Am.cq rfl rfl (Am.dx (v:=.slice (some ⟨w1.heap.size,0,none⟩) 1 1) (w':=w1.alloc (.cells #[.int .i64 up] 3)) ?_ (hK _ _ ((hI.alloc zL _).put (k:=17) ay ay) (mq _ _) ⟨w1.heap.size,rfl,hI.size,heap_alloc_new _ _⟩));exact Ex
  ·cases ho;have dw:=Am.lk 34 15 aJ fun _=>rfl
   have nO:∃U:Nat,(ca.tmps.getD 36 undef)=.slice (some ⟨U,0,none⟩) 1 1∧W.heap.size≤U∧w1.heap[U]?=some (.cells #[.int .i64 up] 3 (0,0)):=Am.kF (j:=17) aJ ak rfl rfl;obtain⟨U,eU,hN0,hU⟩:=nO;have hb':=Am.jP eU;have Lv:f 18=false:=XY;have hf2:f 32=false:=hbh 32 ak;have JN:=hI.rows;rw [Lv] at JN;have hrow:=JN.rows 2 _ _ rfl rfl;obtain⟨iI,Ei,Ej,Ek,El⟩:=info_parts Tryz.uo;obtain⟨v',w',hr,g2,g3,g4⟩:=cY (P:=Tryz.prog) w1 (FB+1) 28 28 3 iI (.int .i64 0) 1 8 Tryz.underlying28 Ei Ej Ek El rfl ay v3 s.jh.length (s.jh.map (Value.int .i64)) hrow ⟨U,0,none⟩ 1 1 ay [.int .i64 (up)] ai
    (fun j q hj=>by
     cases j with
     |zero=>simp at hj;subst hj;simp [Addr.add,World.cell?,hU]
     |succ j=>simp at hj) (fun q hq=>by simp at hq;subst hq;rfl) kT aa (by have:=hI.size;omega)
   have Qu:Ints (FB+1) w' v' (s.jh++[up]):=Gg;obtain⟨sa,Qv,Qw,D7⟩:∃(a:Option Addr) (k1 k2:Nat),v'=.slice a k1 k2:=by
    exact Ey
   refine Am.cq rfl rfl (Am.dx (v:=v') (w':=w') ?_ (hK _ _ (hI.acg zL Lv hf2 g3 Qu g4) (mz g3 acn) ⟨sa,Qv,Qw,D7⟩));exact Ez
  ·exact xE
  ·cases ho;have dw:=Am.lk 38 19 aJ fun _=>rfl
   exact ep
  ·cases ho;have dw:=Am.lk 39 20 aJ fun _=>rfl
   exact ep
  ·cases ho;have dw:=Am.lk 40 21 aJ fun _=>rfl
   have hc6:w1.cell? ⟨FB,6,none⟩=some v5:=xF;refine Am.rv rfl rfl (hK _ _ (hI.put ay ay) (fun _ _ _=>rfl) rfl) ?_;generalize ca.eval=ev at*;simp [go_sem,execOp,hfn,hcs,dw,hc6]
  ·cases ho;refine Am.cq rfl rfl (Am.dx (v:=.slice (some ⟨w1.heap.size,0,none⟩) 1 1) (w':=w1.alloc (.cells #[.int .i64 0] 3)) ?_ (hK _ _ ((hI.alloc zL _).put (k:=23) ay ay) (mq _ _) ⟨w1.heap.size,rfl,hI.size,heap_alloc_new _ _⟩));exact Es
  ·cases ho;have dw:=Am.lk 41 22 aJ fun _=>rfl
   have h42:∃U:Nat,(ca.tmps.getD 42 undef)=.slice (some ⟨U,0,none⟩) 1 1∧W.heap.size≤U∧w1.heap[U]?=some (.cells #[.int .i64 0] 3 (0,0)):=Am.kF (j:=23) aJ ak rfl rfl;obtain⟨U,eU,hN0,hU⟩:=h42;have hb':=Am.jP eU;have Lv:f 24=false:=XY;have JN:=hI.rows;rw [Lv] at JN;have hrow:=JN.rows 4 _ _ rfl rfl;obtain⟨iI,Ei,Ej,Ek,El⟩:=info_parts Tryz.uo;obtain⟨v',w',hr,g2,g3,g4⟩:=cY (P:=Tryz.prog) w1 (FB+1) 28 28 3 iI (.int .i64 0) 1 8 Tryz.underlying28 Ei Ej Ek El rfl ay v5 s.many.length (s.many.map (Value.int .i64)) hrow ⟨U,0,none⟩ 1 1 ay [.int .i64 (0)] ai
    (fun j q hj=>by
     cases j with
     |zero=>simp at hj;subst hj;simp [Addr.add,World.cell?,hU]
     |succ j=>simp at hj) (fun q hq=>by simp at hq;subst hq;rfl) kT aa (by have:=hI.size;omega)
   have Qu:Ints (FB+1) w' v' (s.many++[0]):=Gg;obtain⟨sa,Qv,Qw,D7⟩:∃(a:Option Addr) (k1 k2:Nat),v'=.slice a k1 k2:=by
    exact Ey
   refine Am.cq rfl rfl (Am.dx (v:=v') (w':=w') ?_ (hK _ _ (hI.ach zL Lv g3 Qu g4) (mz g3 aco) ⟨sa,Qv,Qw,D7⟩));exact Ez
  ·cases ho;have dw:=Am.lk 19 0 aJ fun _=>rfl
   exact ep
  ·cases ho;have dw:=Am.lk 44 25 aJ fun _=>rfl
   exact ep
  ·cases ho;have dw:=Am.lk 45 26 aJ fun _=>rfl
   exact ep
  ·cases ho;have dw:=Am.lk 46 27 aJ fun _=>rfl
   have h29:∃(a:Option Addr) (k1 k2:Nat),(ca.tmps.getD 29 undef)=.slice a k1 k2:=Am.kF (j:=10) aJ ak rfl rfl;obtain⟨sa,Qv,Qw,D7⟩:=h29;have X6:=Am.jP D7;have hfr:w1.frozen? ⟨FB,3,none⟩=false:=Gh;obtain⟨oc,hoc⟩:∃oc,w1.cell? ⟨FB,3,none⟩=some oc:=⟨_,by simp [World.cell?,hI.heap];rfl⟩;refine Am.cq rfl rfl (wp_skip (w':=w1.setCell ⟨FB,3,none⟩ (.slice sa Qv Qw)) ?_ (hK undef _ (hI.aci D7 undef) (xD hFN _ _) trivial));generalize ca.eval=ev at*;simp [go_sem,execOp,hfn,hcs,dw,X6,hfr,hoc]
  ·cases ho;have dw:=Am.lk 20 1 aJ fun _=>rfl
   exact ep
  ·cases ho;have dw:=Am.lk 47 29 aJ fun _=>rfl
   exact ep
  ·cases ho;have dw:=Am.lk 48 30 aJ fun _=>rfl
   exact ep
  ·cases ho;have dw:=Am.lk 49 31 aJ fun _=>rfl
   have h37:∃(a:Option Addr) (k1 k2:Nat),(ca.tmps.getD 37 undef)=.slice a k1 k2:=Am.kF (j:=18) aJ ak rfl rfl;obtain⟨sa,Qv,Qw,D7⟩:=h37;have X6:=Am.jP D7;have hfr:w1.frozen? ⟨FB,4,none⟩=false:=Gh;obtain⟨oc,hoc⟩:∃oc,w1.cell? ⟨FB,4,none⟩=some oc:=⟨_,by simp [World.cell?,hI.heap];rfl⟩;refine Am.cq rfl rfl (wp_skip (w':=w1.setCell ⟨FB,4,none⟩ (.slice sa Qv Qw)) ?_ (hK undef _ (hI.acj D7 undef) (xD hFN _ _) trivial));generalize ca.eval=ev at*;simp [go_sem,execOp,hfn,hcs,dw,X6,hfr,hoc]
  ·simp at ho
 ·intro ca w5 f hI hall hd hs dB fM;have h29:∃(a:Option Addr) (k1 k2:Nat),ca.tmps.getD 29 undef=.slice a k1 k2:=dB 10 _ 29 rfl rfl (fun _=>rfl);have h37:∃(a:Option Addr) (k1 k2:Nat),ca.tmps.getD 37 undef=.slice a k1 k2:=dB 18 _ 37 rfl rfl (fun _=>rfl);obtain⟨a43,k43,l43,h43⟩:∃(a:Option Addr) (k1 k2:Nat),ca.tmps.getD 43 undef=.slice a k1 k2:=dB 24 _ 43 rfl rfl (fun _=>rfl);have Io:ca.tmps.getD 21 undef=.pointer (some ⟨FB,0,none⟩):=dB 2 _ 21 rfl rfl (fun _=>rfl);have hdone:=hI.done hall;rw [h43] at hdone;have PL:FP FB p c ns.length (fW s n up) W (w5.setCell ⟨FB,6,none⟩ (.slice a43 k43 l43)):=hdone.fp (hI.below.setCell (p:=⟨FB,6,none⟩) (Nat.le_refl _) _) (hI.keep.trans (cE 6 _)) (by simpa using hI.size);have jM:=Am.jN hd hs fM;simp only [List.foldl_cons,List.foldl_nil,Io,h43] at jM;generalize ca.tmps.getD 19 undef=x19 at*;generalize ca.tmps.getD 20 undef=x20 at*;generalize ca.tmps.getD 22 undef=x22 at*;generalize ca.tmps.getD 23 undef=x23 at*;generalize ca.tmps.getD 24 undef=x24 at*;generalize ca.tmps.getD 25 undef=x25 at*;generalize ca.tmps.getD 26 undef=x26 at*;generalize ca.tmps.getD 27 undef=x27 at*;generalize ca.tmps.getD 28 undef=x28 at*;generalize ca.tmps.getD 29 undef=x29 at*;generalize ca.tmps.getD 30 undef=x30 at*;generalize ca.tmps.getD 31 undef=x31 at*;generalize ca.tmps.getD 32 undef=x32 at*;generalize ca.tmps.getD 33 undef=x33 at*;generalize ca.tmps.getD 34 undef=x34 at*;generalize ca.tmps.getD 35 undef=x35 at*;generalize ca.tmps.getD 36 undef=x36 at*;generalize ca.tmps.getD 37 undef=x37 at*;generalize ca.tmps.getD 38 undef=x38 at*;generalize ca.tmps.getD 39 undef=x39 at*;generalize ca.tmps.getD 40 undef=x40 at*;generalize ca.tmps.getD 41 undef=x41 at*;generalize ca.tmps.getD 42 undef=x42 at*;generalize ca.tmps.getD 44 undef=x44 at*;generalize ca.tmps.getD 45 undef=x45 at*;generalize ca.tmps.getD 46 undef=x46 at*;generalize ca.tmps.getD 47 undef=x47 at*;generalize ca.tmps.getD 48 undef=x48 at*;generalize ca.tmps.getD 49 undef=x49 at*;clear Io h43;subst jM;simp only [List.setIfInBounds_toArray,List.set_cons_succ,List.set_cons_zero];have c56:w5.cell? ⟨FB,6,none⟩=some v5:=xF;have f56:w5.frozen? ⟨FB,6,none⟩=false:=Gh;have fJ:Below W0.heap.size W0 w5:=(hb0.trans hI.below).mono h0;obtain⟨b,o,hp,dz,eO,bg,_,_,k2,_⟩:=aY HN.out hn;have k25:w5.cell? ⟨b,o+n*4+2,none⟩=some (.slice ns[n].kp ns[n].kids.length ns[n].aC):=(fJ.cell (p:=⟨b,_,none⟩) dz).trans k2;have c50:w5.cell? ⟨FB,0,none⟩=some (.slice (some ⟨b,o,none⟩) ns.length c):=by simp [World.cell?,hI.heap,hp]
  have c55:w5.cell? ⟨FB,5,none⟩=some (.slice sv4 s.seen.length sc4):=by simp [World.cell?,hI.heap,afV.out]
  have hbF:¬b=FB:=aa;have hFb:¬FB=b:=aa;have cX:aF ns (n:Int)=ns[n].kids:=mj;have acp:=HC.out ns[n] (List.getElem_mem hn);have th:=gW ht (n:=(n:Int)) aa;have wO:=gX ht n;have Dk:=gY ht.ahead (aF ns (n:Int));rw [cX] at th wO Dk hk2;have lF:=hid cX;have n0:(0:Int)≤(n:Int):=aa;have n1:(n:Int)<(ns.length:Int):=aa;have Hnx:=hid eO;have Hf:=hid bg;clear eO cX k2 bg fJ;generalize ns[n]=x at*;obtain⟨q,hq⟩:∃q,q=x.kids.length:=⟨_,rfl⟩;rw [←hq] at k25 acp hk2 Dk;obtain⟨m,hm⟩:∃m,q=m+2:=⟨q - 2,by omega⟩;have lD:(q:Int) - 2=(m:Int):=aa;have wG:(m:Int)≤(x.aC:Int):=aa;have hq9:(q:Int)≤100000:=aa;have hm4:(m:Int)≤100000:=aa;have hm3:(q:Int) - 1=((m+1:Nat):Int):=aa;have Hm:=hid hm;have Hq:=hid hq;have Hvk:=hid th;have Hwk:=hid wO;have Hwl:=hid Dk;have P9:(2:Int)≤(q:Int):=aa;clear hm hq th wO hk2 Dk;obtain⟨w6,hw6⟩:∃w6,w6=w5.setCell ⟨FB,6,none⟩ (.slice a43 k43 l43):=⟨_,rfl⟩;rw [←hw6] at hdone PL;have HD:=hid hdone;have Lx:=hid PL;have Hi1:=hid (uJ Hi.out (n:Int) up);have Hw6:=hid hw6;have BP:=hid IH;have Ds:=hid ht;clear hw6 IH ht Ew acm acn aco c3;clear hdone PL hI hall hd hs dB fM h29 h37;simp only [Am.jQ];go_wp2;simp only [Am.jQ];go_wp2;simp only [Am.jQ];go_wp2;rw [←Hw6.out];go_loopw [71] (fun iv wr=>∃(j:Nat) (sj:Fs),iv=.int .i64 j∧j≤m∧Hid (FP FB p c ns.length sj W wr∧eF ns.length sj∧sj.vars.length≤s.vars.length+j∧sj.funcs.length=s.funcs.length+1∧cS ns (s.funcs.length:Int) (x.kids.take j) ((x.kids.take m).drop j) sj=cS ns (s.funcs.length:Int) [] (x.kids.take m) (fW s n up))) (fun iv _=>m - (intOf iv).toNat)
  case atStart=>exact⟨0,fW s n up,rfl,Nat.zero_le _,hid ⟨Lx.out,Hi1.out.inv,Nat.le_refl _,by simp [fW],rfl⟩⟩
  case round=>
   obtain⟨j,sj,rfl,hj,hJ⟩:=hrel;obtain⟨Ip,hIj,hvj,hfj,hPj⟩:=hJ.out;obtain⟨t0,t1,t2,t3,t4,t5,hfd⟩:=Ip.wH;have HFD:=hid hfd;have HFj:=hid Ip;have HIj:=hid hIj;have HPj:=hid hPj;have fJ:Below W0.heap.size W0 wr:=(hb0.trans Ip.below).mono h0;have Gi:=hid fJ;have e0:wr.cell? ⟨FB,0,none⟩=some (.slice (some ⟨b,o,none⟩) ns.length c):=by rw [←hp];exact hfd.cell 0
   clear hfd Ip hIj hPj hJ;by_cases hjm:j<m
   ·have lB:j<x.kids.length:=by have:=Hq.out;have:=Hm.out;omega
    obtain⟨bk,ok,iW,Ii,td⟩:=cF Hf.out lB;have dy:=(Gi.out.cell (p:=⟨bk,_,none⟩) Ii).trans td;have jx:x.kids.getD j 0=x.kids[j]:=BQ;have eC:=Hvk.out x.kids[j] (List.getElem_mem lB);rw [jx] at dy;obtain⟨z,hz⟩:∃z:Nat,x.kids[j]=(z:Int):=⟨(x.kids[j]).toNat,by omega⟩;rw [hz] at eC dy;have hzl:z<ns.length:=aa;obtain⟨b2,o2,zM,_,hx2,_,_,d1',_,_⟩:=aY HN.out hzl;rw [hp] at zM;cases zM;have d1:=(Gi.out.cell (p:=⟨b,_,none⟩) dz).trans d1';have htz:gN ns (z:Int)=ns[z].text.toList:=by unfold gN;rw [Int.toNat_natCast,hx2]
    have jl:x.kids.take (j+1)=x.kids.take j++[(z:Int)]:=Gj;have BR:(x.kids.take m).drop j=(z:Int)::(x.kids.take m).drop (j+1):=by
     rw [List.drop_eq_getElem_cons pP,List.getElem_take,hz]
    have z0:(0:Int)≤(z:Int):=aa;have z1:(z:Int)<(ns.length:Int):=aa;have j0:(0:Int)≤(j:Int):=aa;have j1:(j:Int)<(m:Int):=aa;have j2:(j:Int)≤(x.aC:Int):=aa;have j3:(j:Int)≤100000:=aa;have Htz:=hid htz;have pQ:=hid jl;have Lz:=hid BR;have X7:=hid iW;obtain⟨F,hF⟩:∃F:Fs→Int→Fs,F=fun s m=>if gN ns (z:Int)==gN ns m then bt s (z:Int) 110 else s:=⟨_,rfl⟩
    have HFf:=hid hF;have Hd1:=hid d1';rw [iW];clear htz jl BR jx hx2 hz td d1' iW hF;generalize ns[z].text=sz at*;go_wp2;go_loopw [80] (fun iv wr2=>∃(i:Nat) (sk:Fs),iv=.int .i64 i∧i≤j∧Hid (FP FB p c ns.length sk W wr2∧eF ns.length sk∧sk.vars.length=sj.vars.length∧sk.funcs.length=sj.funcs.length∧((x.kids.take j).drop i).foldl F sk=(x.kids.take j).foldl F sj)) (fun iv _=>j - (intOf iv).toNat)
    case atStart=>exact⟨0,sj,rfl,Nat.zero_le _,hid ⟨HFj.out,HIj.out,rfl,rfl,rfl⟩⟩
    case round=>
     obtain⟨i,sk,rfl,Iq,hK⟩:=hrel;obtain⟨hFk,hIk,acs,X8,xb⟩:=hK.out;obtain⟨r0,r1,r2,r3,r4,r5,gQ⟩:=hFk.wH;have XS:=hid gQ;have HFk:=hid hFk;have HIk:=hid hIk;have HKe:=hid xb;have HBk:=hid ((hb0.trans hFk.below).mono h0);have e0k:wr.cell? ⟨FB,0,none⟩=some (.slice (some ⟨b,o,none⟩) ns.length c):=by rw [←hp];exact gQ.cell 0
     have d1k:=(HBk.out.cell (p:=⟨b,_,none⟩) dz).trans Hd1.out;have hsF:FB≤wr.heap.size:=by have:=gQ.lt;omega
     clear gQ hFk hIk xb hK;by_cases hij:i<j
     ·have X9:i<x.kids.length:=by omega
      obtain⟨bk',ok',BS,Ir,acu⟩:=cF Hf.out X9;rw [X7.out] at BS;cases BS;have hci:=(HBk.out.cell (p:=⟨bk,_,none⟩) Ir).trans acu;have jx:x.kids.getD i 0=x.kids[i]:=by simp [List.getD,List.getElem?_eq_getElem X9]
      have BU:=Hvk.out x.kids[i] (List.getElem_mem X9);rw [jx] at hci;obtain⟨y,hy⟩:∃y:Nat,x.kids[i]=(y:Int):=⟨(x.kids[i]).toNat,by omega⟩;rw [hy] at BU hci;have DA:y<ns.length:=aa;obtain⟨b3,o3,PN,_,hx3,_,_,f1',_,_⟩:=aY HN.out DA;rw [hp] at PN;cases PN;have f1:=(HBk.out.cell (p:=⟨b,_,none⟩) dz).trans f1';have lA:gN ns (y:Int)=ns[y].text.toList:=by unfold gN;rw [Int.toNat_natCast,hx3]
      have hdr:(x.kids.take j).drop i=(y:Int)::(x.kids.take j).drop (i+1):=by
       rw [List.drop_eq_getElem_cons pP,List.getElem_take,hy]
      have y0:(0:Int)≤(y:Int):=aa;have y1:(y:Int)<(ns.length:Int):=aa;have i0:(0:Int)≤(i:Int):=aa;have i1:(i:Int)<(j:Int):=aa;have hFy:F sk (y:Int)=if sz.toList==(ns[y].text).toList then bt sk (z:Int) 110 else sk:=by rw [HFf.out];show(if gN ns (z:Int)==gN ns (y:Int) then _ else _)=_;rw [Htz.out,lA]
      have HFy:=hid hFy;have Hdr:=hid hdr;clear lA hdr jx hx3 hy acu f1' hFy Ir;generalize ns[y].text=sy at*;cases he:(sz.toList==sy.toList) with
      |true=>
       have HE:=hid (HFy.out.trans (if_pos he));go_wp2;go_quiet (fail);rename_i nq;have HRq:=hid (XS.out.later (below_drewN wr nq));go_wp2_with (go_at_call 61;refine(uI HRq.out _ _).mono ?_);intro e w9 hh
       first|(subst hh;intro nr)|(obtain⟨rfl,nr⟩:=hh)
       have LA:=hid nr;clear nr;go_wp2;go_roundw
       case rel=>
        obtain⟨z1',_,z3',_,_,_⟩:=dK sk (z:Int) 110;exact⟨i+1,bt sk (z:Int) 110,by go_num,by omega,hid ⟨(HFk.out.later (below_drewN wr nq) hsF).trans LA.out,xG HIk.out _ _,by rw [z1'];exact acs,by rw [z3'];exact X8,by rw [←HE.out,←HKe.out,Hdr.out];rfl⟩⟩
       case measure=>simp [intOf];omega
      |false=>
       have HE:=hid (HFy.out.trans (if_neg pR));go_wp2;go_quiet (fail);go_wp2;go_roundw
       case rel=>exact⟨i+1,sk,by go_num,by omega,hid ⟨HFk.out.later (below_drewN wr _) hsF,HIk.out,acs,X8,by rw [←HKe.out,Hdr.out,List.foldl_cons,HE.out]⟩⟩
       case measure=>simp [intOf];omega
     ·obtain rfl:i=j:=by omega
      have acv:sk=(x.kids.take i).foldl F sj:=by rw [←HKe.out,List.drop_eq_nil_of_le pP];rfl
      have af7:=hid acv;clear acv;have EA:sk.vars.length≤100000:=by have:=Hwk.out;have:=Hwl.out;have:=Hm.out;omega
      go_wp2_with (go_at_call 63;refine(Li XS.out HIk.out HN.out h0 (hb0.trans HFk.out.below) z s.funcs.length hzl aa EA).mono ?_);intro e w9 hh
      first|(subst hh;intro nr)|(obtain⟨rfl,nr⟩:=hh)
      have LA:=hid nr;clear nr;go_wp2;go_roundw
      case rel=>
       have hg:=mB HIk.out ns (z:Int) (s.funcs.length:Int) ⟨z0,z1⟩;refine⟨i+1,eE ns sk (z:Int) (s.funcs.length:Int),by go_num,by omega,hid ⟨HFk.out.trans LA.out,hg.inv,by have:=hg.v1;omega,by rw [kE];omega, ?_⟩⟩;rw [←HPj.out,Lz.out,pQ.out,af7.out,HFf.out];rfl
      case measure=>simp [intOf];omega
   ·obtain rfl:j=m:=by omega
    have hdone:sj=cS ns (s.funcs.length:Int) [] (x.kids.take j) (fW s n up):=by
     rw [←HPj.out,List.drop_eq_nil_of_le pP];rfl
    have lB:j+1<x.kids.length:=by have:=Hq.out;have:=Hm.out;omega
    obtain⟨bk,ok,iW,Ii,td⟩:=cF Hf.out lB;have dy:=(Gi.out.cell (p:=⟨bk,_,none⟩) Ii).trans td;have jx:x.kids.getD (j+1) 0=x.kids[j+1]:=BQ;have eC:=Hvk.out x.kids[j+1] (List.getElem_mem lB);rw [jx] at dy;obtain⟨z,hz⟩:∃z:Nat,x.kids[j+1]=(z:Int):=⟨(x.kids[j+1]).toNat,by omega⟩;have hwz:wI ns (x.kids.take (j+1))+wt ns z≤wI ns x.kids:=by have:=dJ (ns:=ns) x.kids (j+1) lB;rw [hz] at this;simpa using this
    have hwt:=gY Ds.out.ahead (x.kids.take (j+1));rw [List.length_take] at hwt;rw [hz] at eC dy;have hzl:z<ns.length:=aa;have hg1:=mC ns (s.funcs.length:Int) (x.kids.take j) [] Hi1.out.inv (fun q hq=>by have:=Hvk.out q (List.mem_of_mem_take hq);omega);rw [←hdone] at hg1;have hg2:=iy Ds.out k z (s.funcs.length:Int) false sj aa hzl HIj.out;have hgd:x.kids.getD (x.kids.length - 1) 0=(z:Int):=by rw [show x.kids.length - 1=j+1 by have:=Hq.out;have:=Hm.out;omega,jx,hz]
    have acw:pK ns (aH ns k) n up s={aH ns k (z:Int) (s.funcs.length:Int) false sj with seen:=(aH ns k (z:Int) (s.funcs.length:Int) false sj).seen.take s.seen.length}:=by
     unfold pK;simp only;rw [lF.out,hgd,show x.kids.length - 2=j by have:=Hq.out;have:=Hm.out;omega,show({s with funcs:=s.funcs++[(n:Int)],jh:=s.jh++[up],many:=s.many++[0]}:Fs)=fW s n up from rfl,←hdone]
    have acy:=hid acw;obtain⟨s2,hs2⟩:∃s2,s2=aH ns k (z:Int) (s.funcs.length:Int) false sj:=⟨_,rfl⟩;have gR:=BP.out z aa s.funcs.length false wr sj ⟨_,_,_,_,_,_,HFD.out⟩ HIj.out (hb0.trans HFj.out.below) aa (by have:=Hwk.out;omega) (by have:=Hwk.out;omega);rw [←hs2] at acy hg2 gR;have Gf:=hid gR;have Hg2:=hid hg2;have Hg1:=hid hg1;have j0:(0:Int)≤(j:Int):=aa;have j1:((j+1:Nat):Int)<(q:Int):=by have:=Hm.out;omega
    have j4:(0:Int)≤((j+1:Nat):Int):=aa;rw [iW];clear hdone jx hz hwz hwt hg1 hg2 hgd acw hs2 gR iW td;go_wp2_with (go_at_call 31;refine(Gf.out).mono ?_);intro e w9 hh
    first|(subst hh;intro nr)|(obtain⟨rfl,nr⟩:=hh)
    try rw [←hp] at nr
    have LA:=hid nr;obtain⟨r0,r1,r2,r3,r4,r5,gQ⟩:=nr.wH;have hrow:=gQ.rows.rows 3 _ _ rfl rfl;have hlen:s.seen.length≤s2.seen.length:=Nat.le_trans (Nat.le_trans (by simp [fW]) Hg1.out.seen) Hg2.out.seen;have XS:=hid gQ;obtain⟨sv,sc,EA,af8,af9,hI9⟩:=mo hrow hlen;have e5:w9.cell? ⟨FB,5,none⟩=some (.slice sv s2.seen.length sc):=by rw [←EA];exact gQ.cell 5
    have f5:=gQ.frozen 5;have hsi:(s.seen.length:Int)≤(sc:Int):=aa;have hs0:(0:Int)≤(s.seen.length:Int):=aa;have hs9:(s.seen.length:Int)≤100000:=aa;have cP:=gQ.BV hI9 (by rw [EA];cases sv<;>rfl);have Ya:=hid (HFj.out.trans (LA.out.trans (cP.fp ((Below.refl FB w9).setCell (p:=⟨FB,5,none⟩) (Nat.le_refl _) _) (cE 5 _) ai)));clear gQ hrow nr cP hI9;go_wp2;go_end0;refine⟨rfl, ?_⟩;rw [acy.out];exact Ya.out
end Go.Proofs.YtbgjanmheagilaaGreatDoor