/- A part of the proof. Conditions: none. -/
import Derived.Test.YtjchnliaglecoaaGreatDoorZz
import Derived.Test.YtjchnliaglecoaaGreatDoorFkX
import Derived.Test.YtjchnliaglecoaaGreatDoorFeX
import Derived.Test.YtjchnliaglecoaaGreatDoorCgX
set_option linter.unusedVariables false
set_option linter.unusedSimpArgs false
set_option maxRecDepth 100000
set_option maxHeartbeats 8000000
namespace Go.Proofs.YtjchnliaglecoaaGreatDoor
open Go Go.RowKit Go.Nodes Go.Maps Go.WideMaps Go.ChangeShapes
theorem Tryz.QK:(Tryz.prog.info? 119).map (fun i=>(i.zero,i.size,i.bytes))=some (some (.map none),1,8):=by kernel_rfl
theorem fe.empty {w:World} {b:Nat} {k:Nat} (h:tR w b k (.map [])) (hk:k=0):fe w b []:=by
 refine⟨k,_,h,by omega,fun t=>⟨rfl,fun v hv=>?_⟩⟩;cases hv
theorem QL {B e n:Nat} {w:World} {v:Value} {l:List Value} (h:w.ownsRow B e 1 v n l) (hl:l.length=n) {k:Nat} (hk:k≤n):∃sv sc,v=.slice sv n sc∧k≤sc∧sc≤maxLen∧w.ownsRow B e 1 (.slice sv k sc) k (l.take k):=by
 have hl2:(l.take k).length=k:=pW;rcases h.2 with⟨h1,h2⟩|⟨g,cap,cur,hv,hg,hh,hn,hm,hsz,uV⟩
 ·exact QM
 ·refine⟨_,cap,hv,by omega,hm,by rw [hl2];simp,.inr ⟨g,cap,cur,rfl,hg,hh,by omega,hm,hsz, ?_⟩⟩;rw [←uV,List.take_take];congr 1;omega
section
variable {B FB c L mm N:Nat} {p:Option Addr} {w w':World} {s:Fs} {bl:List ey} {aB:List Nat} {v0 v1 v2 v3 v4:Value}
theorem bF.Jt (h:bF B FB p c L mm N w s bl aB v0 v1 v2 v3 v4) {v':Value} {mb:Nat} (hg:w.grownBy w' v4.ownBlock) (hown:w'.ownsRow B 119 1 v' (aB++[mb]).length ((aB++[mb]).map fun b=>.map (some b))) (hm:fe w' mb []) (hB:B≤mb) (hn:mb ∉ aB) (hne:mb≠mm):
  bF B FB p c L mm N (w'.setCell ⟨FB,5,none⟩ v') s (bl++[[]]) (aB++[mb]) v0 v1 v2 v3 v':=by
 have hF:v4.ownBlock≠some FB:=fF h.blocks h.heap aj;have kr:∀{B' n e size:Nat} {xs:List Value} {v:Value},w.ownsRow B' e size v n xs→119≠e→w'.ownsRow B' e size v n xs:=fun hr he=>hr.kept hg (yG (tS h.blocks hr he))
 refine bF.agN h.ge (h.other hg hF) rfl ⟨h.rows.len,fun i v l a b=>kr (h.rows.rows i v l a b) aj,h.rows.apart⟩ (kr h.vars aj) hown (by simp [h.len]) (fun i b nm a e=>?_) ?_ ?_ ?_ h.ju ?_
 ·by_cases hi:i<aB.length
  ·rw [List.getElem?_append_left hi] at a;rw [List.getElem?_append_left (by have:=h.len;omega)] at e;have Fj:=h.maps i b nm a e;obtain⟨es,uZ,hh⟩:=Fj.map;exact Fj.kept hg fun e2=>kK h.blocks hh e2.symm
  ·rw [List.getElem?_append_right af] at a;rw [List.getElem?_append_right (by have:=h.len;omega)] at e;have h0:i - aB.length=0:=by have:=(List.getElem?_eq_some_iff.1 a).1;simp at this;omega
   have h1:i - bl.length=0:=by have:=h.len;omega
   rw [h0] at a;rw [h1] at e;simp at a e;subst a;subst e;exact hm
 ·intro b hb;rcases List.mem_append.1 hb with hb|hb
  ·exact h.jY b hb
  ·simp at hb;subst hb;exact hB
 ·rw [List.nodup_append];refine⟨h.nodup,by simp,fun a ha b hb=>?_⟩;simp at hb;subst hb;exact fun e=>hn (e ▸ ha)
 ·obtain⟨es,uZ,hh⟩:=h.many.map;exact h.many.kept hg fun e2=>kK h.blocks hh e2.symm
 ·intro hb;rcases List.mem_append.1 hb with hb|hb
  ·exact h.jZ hb
  ·simp at hb;exact hne hb.symm
theorem bF.Ju {nm:ey} {mb:Nat} (h:bF B FB p c L mm N w s (bl++[nm]) (aB++[mb]) v0 v1 v2 v3 v4) {v':Value} (hown:w.ownsRow B 119 1 v' aB.length (aB.map fun b=>.map (some b))):
  bF B FB p c L mm N (w.setCell ⟨FB,5,none⟩ v') s bl aB v0 v1 v2 v3 v':=by
 have hlen:aB.length=bl.length:=by have:=h.len;simpa using this
 refine bF.agN h.ge h.heap rfl h.rows h.vars hown hlen (fun i b nm' a e=>?_) (fun b hb=>h.jY b (List.mem_append_left _ hb)) ((List.nodup_append.1 h.nodup).1) h.many h.ju (fun hb=>h.jZ (List.mem_append_left _ hb));exact h.maps i b nm' (by rw [List.getElem?_append_left (List.getElem?_eq_some_iff.1 a).1];exact a) (by rw [List.getElem?_append_left (List.getElem?_eq_some_iff.1 e).1];exact e)
end
def sr (s1 s:Fs):Fs:={s1 with seen:=s1.seen.take s.seen.length}
theorem eu.cut {ns:List Nd} {s s1:Fs} {fY:List ey} {nm:ey} (h0:eu ns s fY) (h:eu ns s1 (fY++[nm])):eu ns (sr s1 s) fY:=by
 have e:(sr s1 s).seen=(fY.flatten).map (·.2):=by
  show s1.seen.take s.seen.length=_;rw [h.seen,h0.seen];simp
 refine⟨e,fun x hx=>?_⟩;have:=h.text x (by simp only [List.flatten_append,List.mem_append];exact .inl hx);exact this
theorem eu.push {ns:List Nd} {s:Fs} {fY:List ey} (h:eu ns s fY):eu ns s (fY++[[]]):=by
 have e:(fY++[([]:ey)]).flatten=fY.flatten:=ak;exact⟨by rw [e];exact h.seen,by rw [e];exact h.text⟩
theorem BC {B FB mm:Nat} {p:Option Addr} {c:Nat} {ns:List Nd} {W:World} {s s1:Fs} {bl:List ey} {nm:ey} {aB:List Nat} {v0 v1 v2 v3 v4:Value} (hF:bF B FB p c ns.length mm s.vars.length W s (bl++[nm]) aB v0 v1 v2 v3 v4) (fy:eu ns s (bl++[nm]))
  (hbl:bl.length≤100000) (Ya:FuncId) (Dg:Array Value) (hcf:∀w,(callFunc Ya Dg).run Tryz.prog w=.ok (.enter Ya Dg) w)
  (hC:∀(W1:World) (OW:Value) (mb:Nat),bF B FB p c ns.length mm s.vars.length W1 s (bl++[nm]++[[]]) (aB++[mb]) v0 v1 v2 v3 OW→aK B W W1 (aJ FB mm aB v0 v1 v2 v3 v4) (aJ FB mm (aB++[mb]) v0 v1 v2 v3 OW)→
   Calls Tryz.prog Ya Dg W1 (cE B FB p c ns mm (aB++[mb]) (aJ FB mm (aB++[mb]) v0 v1 v2 v3 OW) W1 (bl++[nm]) [] s1)):
  Calls Tryz.prog 217 #[.pointer (some ⟨FB,0,none⟩),.func (.func Ya) #[] Dg] W (cE B FB p c ns mm aB (aJ FB mm aB v0 v1 v2 v3 v4) W bl nm (sr s1 s)):=by
 have yu:= @run_makeMap Tryz.prog;have lV:aB.length=bl.length+1:=by have:=hF.len;simpa using this
 obtain⟨Q,hQ⟩:∃Q,Q=aB.length:=⟨_,rfl⟩;have hQ1:Q≤100001:=af;obtain⟨sv,sc,nR⟩:∃sv sc,v4=.slice sv Q sc:=by
  exact QN
 have c5:W.cell? ⟨FB,5,none⟩=some (.slice sv Q sc):=Fw;have sg:=hF.lt;have fR:=hF.ge;have HF:=hid hF;have HC:=hid hC;have HQ:=hid hQ;have Hsv:=hid nR;obtain⟨iM,hiM,zM0,zM1,zM2⟩:=info_parts Tryz.QK;clear hF hC hQ nR;go_enter Tryz.func217,Tryz.ntmps217;go_wp2_with (at_builtin;go_loud (refine cT _ rfl _ _ 187 rfl B 119 iM _ 1 8 Tryz.underlying187 hiM zM0 zM1 zM2 rfl aj (.slice sv Q sc) Q (aB.map fun b=>.map (some b)) rfl ?yH ⟨W.heap.size+1,0,none⟩ 1 1 aj [.map (some W.heap.size)] rfl rfl ?BD Fx ?Yb ?su ?pZ ?p4))
 case yH=>
  exact QO
 case BD=>
  exact QS
 case Yb=>unfold maxLen;omega
 case su=>omega
 case pZ=>simp;omega
 case p4=>
  have Yc:=trivial;exact alo
end Go.Proofs.YtjchnliaglecoaaGreatDoor

/- A part of the proof. Conditions: none. -/
set_option maxRecDepth 100000
set_option maxHeartbeats 8000000
namespace Go.Proofs.YtjchnliaglecoaaGreatDoor
open Go Go.RowKit Go.Nodes Go.Maps Go.WideMaps Go.ChangeShapes
def jG (B FB mm:Nat) (p:Option Addr) (c:Nat) (ns:List Nd) (W0:World) (k q:Nat):Prop:=∀(fn:Nat) (loop:Bool) (W:World) (s:Fs) (bl:List ey) (nm:ey) (aB:List Nat) (v0 v1 v2 v3 v4:Value),
 bF B FB p c ns.length mm s.vars.length W s (bl++[nm]) aB v0 v1 v2 v3 v4→cN ns.length s→eu ns s (bl++[nm])→Below B W0 W→fn<s.funcs.length→s.vars.length+wt ns q≤100000→s.funcs.length+wt ns q≤100000→bl.length+wt ns q≤100000→s.e=0→
 Calls Tryz.prog 172 #[.pointer (some ⟨FB,0,none⟩),.int .i64 q,.int .i64 fn,.bool loop] W (cE B FB p c ns mm aB (aJ FB mm aB v0 v1 v2 v3 v4) W bl nm (aA ns k q fn loop s))
theorem aK.cell {B:Nat} {w w':World} {O O':Nat→Prop} (h:aK B w w' O O') {g:Nat} (hg:g<w.heap.size) (hO:¬O g) (k:Nat):w'.cell? ⟨g,k,none⟩=w.cell? ⟨g,k,none⟩:=by
 simp only [World.cell?,h.keep g hg hO]
theorem aK.not {B:Nat} {w w':World} {O O':Nat→Prop} (h:aK B w w' O O') {g:Nat} (hg:g<w.heap.size) (hO:¬O g):¬O' g:=fun e=>(h.own g e).elim hO af
theorem aK.size {B:Nat} {w w':World} {O O':Nat→Prop} (h:aK B w w' O O'):w.heap.size≤w'.heap.size:=h.below.size
structure mC (w:World) (O:Nat→Prop) (g k:Nat) (v:Value):Prop where
 lt:g<w.heap.size
 out:¬O g
 cell:w.cell? ⟨g,k,none⟩=some v
theorem mC.step {B:Nat} {w w':World} {O O':Nat→Prop} {g k:Nat} {v:Value} (b:mC w O g k v) (h:aK B w w' O O'):mC w' O' g k v:=
 ⟨Nat.lt_of_lt_of_le b.lt h.size,h.not b.lt b.out,(h.cell b.lt b.out k).trans b.cell⟩
def vN (w:World) (O:Nat→Prop) (kp:Option Addr) (ks:List Int):Prop:=∀i (h:i<ks.length),∃ab ao,kp=some ⟨ab,ao,none⟩∧mC w O ab (ao+i) (.int .i64 ks[i])
theorem vN.step {B:Nat} {w w':World} {O O':Nat→Prop} {kp:Option Addr} {ks:List Int} (b:vN w O kp ks) (h:aK B w w' O O'):vN w' O' kp ks:=fun i hi=>by
 obtain⟨ab,ao,e,hb⟩:=b i hi;exact⟨ab,ao,e,hb.step h⟩
section
variable {B FB mm:Nat} {p:Option Addr} {c:Nat} {ns:List Nd} {W0:World}
theorem cE.trans {W w1 w':World} {O O1:Nat→Prop} {bl:List ey} {nm ext:ey} {aB:List Nat} {s1:Fs} {e:Ending} (hs:aK B W w1 O O1) (h:cE B FB p c ns mm aB O1 w1 bl (nm++ext) s1 e w'):cE B FB p c ns mm aB O W bl nm s1 e w':=by
 refine⟨fun h1=>?_,fun h1=>?_⟩
 ·obtain⟨e1,x,v0,v1,v2,v3,v4,_,a,b,d⟩:=h.1 h1;exact⟨e1,ext++x,v0,v1,v2,v3,v4,trivial,by rw [←List.append_assoc];exact a,by rw [←List.append_assoc];exact b,hs.trans d⟩
 ·obtain⟨e1,d⟩:=h.2 h1;exact⟨e1,(hs.trans d).weak⟩
theorem CK (ht:Tree ns) (k n:Nat) (hn:n≤ns.length) (kU:n≤k) (IH:∀q,q<n→jG B FB mm p c ns W0 k q) (ks:List Int) (cO:∀q∈ks,0≤q∧q<(n:Int)) (fn:Nat) (loop:Bool) (W:World) (s:Fs) (bl:List ey) (nm:ey) (aB:List Nat) (v0 v1 v2 v3 v4:Value)
  (hF:bF B FB p c ns.length mm s.vars.length W s (bl++[nm]) aB v0 v1 v2 v3 v4) (hi:cN ns.length s) (fy:eu ns s (bl++[nm])) (hb0:Below B W0 W) (hfn:fn<s.funcs.length) (hsz:s.vars.length+fV ns ks≤100000) (lK:s.funcs.length+fV ns ks≤100000) (hbl:bl.length+fV ns ks≤100000) (he:s.e=0)
  (kp:Option Addr) (cp b4 b6 b7:Nat) (hk:vN W (aJ FB mm aB v0 v1 v2 v3 v4) kp ks) (h4:mC W (aJ FB mm aB v0 v1 v2 v3 v4) b4 0 (.pointer (some ⟨FB,0,none⟩))) (h6:mC W (aJ FB mm aB v0 v1 v2 v3 v4) b6 0 (.int .i64 fn)) (h7:mC W (aJ FB mm aB v0 v1 v2 v3 v4) b7 0 (.bool loop)):
  Calls Tryz.prog 214 #[.slice kp ks.length cp,.pointer (some ⟨b4,0,none⟩),.pointer (some ⟨b6,0,none⟩),.pointer (some ⟨b7,0,none⟩)] W (cE B FB p c ns mm aB (aJ FB mm aB v0 v1 v2 v3 v4) W bl nm (ks.foldl (fun s q=>aA ns k q fn loop s) s)):=by
 obtain⟨G,hG⟩:∃G:Fs→Int→Fs,G=fun s q=>aA ns k q fn loop s:=⟨_,rfl⟩
 rw [←hG];obtain⟨xl,xX⟩:∃xl,xl=ks.length:=⟨_,rfl⟩;have Aw:=gq ht.ahead ks;have hx9:(xl:Int)≤100000:=af;rw [←xX];have HF:=hid hF;have HI:=hid hi;have xE:=hid fy;have Hk:=hid hk;have H4:=hid h4;have H6:=hid h6;have H7:=hid h7;have je:=hid IH;have lN:=hid cO;have Xd:=hid xX;have kj:=hid ht;have HG:=hid hG;have mD:=hid hb0;have He:=hid he;clear hF hi fy hk h4 h6 h7 IH cO xX ht hG hb0 Aw he;go_enter Tryz.func214,Tryz.ntmps214;go_wp2;go_loopw [9] (fun iv wr=>∃(j:Nat) (sj:Fs),iv=.int .i64 j∧j≤xl∧Hid (sj.e=0∧fI ns.length (fV ns (ks.take j)) s sj∧(ks.drop j).foldl G sj=ks.foldl G s∧∃ext u0 u1 u2 u3 u4,bF B FB p c ns.length mm sj.vars.length wr sj (bl++[nm++ext]) aB u0 u1 u2 u3 u4∧eu ns sj (bl++[nm++ext])∧aK B W wr (aJ FB mm aB v0 v1 v2 v3 v4) (aJ FB mm aB u0 u1 u2 u3 u4))) (fun iv _=>xl - (intOf iv).toNat)
 case atStart=>exact⟨0,s,rfl,Nat.zero_le _,hid ⟨He.out,fI.refl HI.out _,rfl,[],v0,v1,v2,v3,v4,by rw [List.append_nil];exact⟨HF.out,xE.out,aK.refl _ _ _⟩⟩⟩
 case round=>
  obtain⟨j,sj,rfl,hj,hJ⟩:=hrel;obtain⟨XE,vO,MN,ext,u0,u1,u2,u3,u4,tj,XF,kV⟩:=hJ.out;have hj0:(0:Int)≤(j:Int):=af;by_cases hjx:j<xl
  ·have ji:j<ks.length:=by have:=Xd.out;omega
   obtain⟨ab,ao,eO,bO⟩:=Hk.out j ji;have eA:=(bO.step kV).cell;have dA:=lN.out ks[j] (List.getElem_mem ji);obtain⟨z,hz⟩:∃z:Nat,ks[j]=(z:Int):=⟨(ks[j]).toNat,by omega⟩;rw [hz] at dA eA;have hzn:z<n:=af;have oG:ks.drop j=(z:Int)::ks.drop (j+1):=by rw [List.drop_eq_getElem_cons ji,hz]
   have gM:ks.take (j+1)=ks.take j++[(z:Int)]:=EP;have oH:fV ns (ks.take j)+wt ns z≤fV ns ks:=by have:=eB (ns:=ns) ks j ji;rw [hz] at this;exact this
   have MO:=eI kj.out k z (fn:Int) loop sj af af vO.inv;have hgA:=hid (vO.trans MO);have MP:=vO.v1;have Ez:=vO.f1;have ko:=vO.f0;have hj1:(j:Int)<(xl:Int):=af;have d4:=(H4.out.step kV).cell;have d6:=(H6.out.step kV).cell;have d7:=(H7.out.step kV).cell;have HC:=hid (je.out z hzn fn loop wr sj bl (nm++ext) aB u0 u1 u2 u3 u4 tj vO.inv XF (mD.out.trans kV.below) af af af af XE);have CL:=hid kV;have tD:=hid oG;have lR:=hid gM;have HEj:=hid MN;rw [eO];have XG:=hid eO;clear hJ XE vO MN tj XF kV bO hz oG gM MO eO;go_wp2_with (go_at_call 172;refine(HC.out).mono ?_);intro e w9 hE;by_cases h1:(aA ns k (z:Int) (fn:Int) loop sj).e=0
   ·obtain⟨rfl,x,t0,t1,t2,t3,t4,_,xY,Io,fD⟩:=hE.1 h1;have HN:=hid (show ∃ext u0 u1 u2 u3 u4,bF B FB p c ns.length mm (aA ns k (z:Int) (fn:Int) loop sj).vars.length w9 (aA ns k (z:Int) (fn:Int) loop sj) (bl++[nm++ext]) aB u0 u1 u2 u3 u4∧eu ns (aA ns k (z:Int) (fn:Int) loop sj) (bl++[nm++ext])∧aK B W w9 (aJ FB mm aB v0 v1 v2 v3 v4) (aJ FB mm aB u0 u1 u2 u3 u4) from⟨ext++x,t0,t1,t2,t3,t4,by rw [←List.append_assoc];exact⟨xY,Io,CL.out.trans fD⟩⟩);have H1:=hid h1;clear hE xY Io fD h1;go_wp2;go_roundw
    case rel=>
     refine⟨j+1,aA ns k (z:Int) (fn:Int) loop sj,by go_num,by omega,hid ⟨H1.out,hgA.out.le ?_, ?_,HN.out⟩⟩
     ·rw [lR.out,CM];simp [fV]
     ·rw [←HEj.out,tD.out,List.foldl_cons,HG.out]
    case measure=>simp [intOf];omega
   ·obtain⟨rfl,fD⟩:=hE.2 h1;have eP:ks.foldl G s=aA ns k (z:Int) (fn:Int) loop sj:=by
     rw [←HEj.out,tD.out,List.foldl_cons,HG.out];exact vP ns k fn loop _ h1
    refine⟨rfl, ?_⟩;rw [eP];exact cE.trans CL.out hE
  ·obtain rfl:j=xl:=by omega
   have hsj:ks.foldl G s=sj:=by rw [←MN,List.drop_eq_nil_of_le (by have:=Xd.out;omega)];rfl
   have Ay:=hid (show cE B FB p c ns mm aB (aJ FB mm aB v0 v1 v2 v3 v4) W bl nm (ks.foldl G s) (.returned (.tuple #[])) wr from by
    rw [hsj];exact⟨fun _=>⟨rfl,ext,u0,u1,u2,u3,u4,trivial,tj,XF,kV⟩,fun h=>absurd XE h⟩)
   clear hJ XE vO MN tj XF kV hsj;go_wp2;go_end0;exact Ay.out
end
end Go.Proofs.YtjchnliaglecoaaGreatDoor

/- A part of the proof. Conditions: none. -/
set_option maxRecDepth 100000
set_option maxHeartbeats 8000000
namespace Go.Proofs.YtjchnliaglecoaaGreatDoor
open Go Go.RowKit Go.Nodes Go.Maps Go.WideMaps Go.ChangeShapes
theorem Jm (nm:ey) (t:List UInt8):(cr nm t).isSome=nm.any (fun x=>x.1==t):=by
 unfold cr;rw [Option.isSome_map,Bool.eq_iff_iff];simp [List.find?_isSome]
theorem X0 {ns:List Nd} {ext:ey} {pre:List Int} (h:ext.map (·.1)=pre.map (dS ns)) (k:Int):(cr ext (dS ns k)).isSome=pre.any (fun m=>dS ns k==dS ns m):=by
 rw [Jm];have h1:ext.any (fun x=>x.1==dS ns k)=(ext.map (·.1)).any (fun t=>t==dS ns k):=by rw [List.any_map];rfl
 rw [h1,h,List.any_map];congr 1;funext m;simp only [Function.comp];exact Bool.beq_comm
theorem pP.ne {a b:Fs} (h:pP a b) (ha:a.e≠0):b.e≠0:=by rw [h.1];exact ha
theorem Fh {ns:List Nd} {fn:Int} {pre ks:List Int} {k:Int} {s:Fs} (he:s.e=0) (h:pre.any (fun m=>dS ns k==dS ns m)=false):cg ns fn pre (k::ks) s=cg ns fn (pre++[k]) ks (cY ns s k fn):=by
 show cg ns fn (pre++[k]) ks (cY ns _ k fn)=_;rw [uT ns k pre he,h];rfl
theorem C8 {ns:List Nd} {fn:Int} {pre ks:List Int} {k:Int} {s:Fs} (he:s.e=0) (h:pre.any (fun m=>dS ns k==dS ns m)=true):(cg ns fn pre (k::ks) s).e=110∧(cg ns fn pre (k::ks) s).bE=k:=by
 have e1:cg ns fn pre (k::ks) s=cg ns fn (pre++[k]) ks (cY ns (bB s k 110) k fn):=by
  show cg ns fn (pre++[k]) ks (cY ns _ k fn)=_;rw [uT ns k pre he,h];rfl
 have h0:=k8 he k 110;have hne:(bB s k 110).e≠0:=by rw [h0.1];decide
 have h1:=Bl hne ns k fn;have h2:=n6 ns fn ks (pre++[k]) (h1.ne hne);rw [e1];exact⟨(h2.1.trans h1.1).trans h0.1,(h2.2.trans h1.2).trans h0.2⟩
section
variable {B FB mm:Nat} {p:Option Addr} {c:Nat} {ns:List Nd} {W0:World}
theorem cE.fails {W w':World} {O:Nat→Prop} {bl:List ey} {nm:ey} {aB:List Nat} {s1:Fs} {e:Ending} {a ee:Int} (h0:ee≠0) (h1:s1.e=ee) (h2:s1.bE=a) (he:e=.panicked (kG a ee)) (hs:aK B W w' O (fun g=>O g∨W.heap.size≤g)):cE B FB p c ns mm aB O W bl nm s1 e w':=
 ⟨fun h=>absurd (h1.symm.trans h) h0,fun _=>⟨by rw [h1,h2];exact he,hs⟩⟩
theorem agF (ht:Tree ns) (hN:ay W0 p ns) (h0:W0.heap.size≤B) (k n:Nat) (hn:n<ns.length) (kU:n≤k) (IH:∀q,q<n→jG B FB mm p c ns W0 k q) (kids:List Int) (bW:ax ns (n:Int)=kids) (h2:2≤kids.length) (fn:Nat) (W:World) (s:Fs) (bl:List ey) (aB:List Nat) (v0 v1 v2 v3 v4:Value)
  (hF:bF B FB p c ns.length mm s.vars.length W s (bl++[[]]) aB v0 v1 v2 v3 v4) (hi:cN ns.length s) (fy:eu ns s (bl++[[]])) (hb0:Below B W0 W) (hfn:fn<s.funcs.length) (hsz:s.vars.length+fV ns kids≤100000) (lK:s.funcs.length+fV ns kids≤100000) (hbl:bl.length+fV ns kids≤100000) (he:s.e=0)
  (kp:Option Addr) (cp b7 b3 b6:Nat) (hcp:kids.length≤cp) (hk:vN W (aJ FB mm aB v0 v1 v2 v3 v4) kp kids) (h7:mC W (aJ FB mm aB v0 v1 v2 v3 v4) b7 0 (.slice kp kids.length cp)) (h3:mC W (aJ FB mm aB v0 v1 v2 v3 v4) b3 0 (.pointer (some ⟨FB,0,none⟩))) (h6:mC W (aJ FB mm aB v0 v1 v2 v3 v4) b6 0 (.int .i64 fn)):
  Calls Tryz.prog 252 #[.pointer (some ⟨b7,0,none⟩),.pointer (some ⟨b3,0,none⟩),.pointer (some ⟨b6,0,none⟩)] W (cE B FB p c ns mm aB (aJ FB mm aB v0 v1 v2 v3 v4) W bl [] (aA ns k (kids.getD (kids.length - 1) 0) fn false (cg ns fn [] (kids.take (kids.length - 2)) s))):=by
 obtain⟨s1,hs1⟩:∃s1,s1=aA ns k (kids.getD (kids.length - 1) 0) fn false (cg ns fn [] (kids.take (kids.length - 2)) s):=⟨_,rfl⟩;rw [←hs1];obtain⟨xl,xX⟩:∃xl,xl=kids.length:=⟨_,rfl⟩;have cO:=bH ht (n:=(n:Int)) af;rw [bW] at cO;have Aw:=gq ht.ahead kids;have hx9:(xl:Int)≤100000:=af;have hxc:(xl:Int)≤(cp:Int):=af;have hx2:(2:Int)≤(xl:Int):=af;rw [←xX] at h7;have c7:=h7.cell;obtain⟨P,hP⟩:∃P,P=xl - 2:=⟨_,rfl⟩;have hP0:(xl:Int) - 2=(P:Int):=af;have hP1:(P:Int)≤(cp:Int):=af;have hP2:(0:Int)≤(P:Int):=af;have hP9:(P:Int)≤100000:=af;have HF:=hid hF;have HI:=hid hi;have xE:=hid fy;have Hk:=hid hk;have H7:=hid h7;have H3:=hid h3;have H6:=hid h6;have je:=hid IH;have lN:=hid cO;have Xd:=hid xX;have kj:=hid ht;have Hs1:=hid hs1;have mD:=hid hb0;have HN:=hid hN;have He:=hid he;have HP:=hid hP;have kH:=hid bW;have Hh2:=hid h2;clear hF hi fy hk h7 h3 h6 IH cO xX ht hs1 hb0 Aw hN he hP bW h2 hcp;go_enter Tryz.func252,Tryz.ntmps252;go_wp2;go_loopw [13] (fun iv wr=>∃(j:Nat) (sj:Fs),iv=.int .i64 j∧j≤P∧Hid (sj.e=0∧fI ns.length j s sj∧cg ns fn (kids.take j) ((kids.take (kids.length - 2)).drop j) sj=cg ns fn [] (kids.take (kids.length - 2)) s∧∃(ext:ey) (u0 u1 u2 u3 u4:Value),ext.map (·.1)=(kids.take j).map (dS ns)∧bF B FB p c ns.length mm sj.vars.length wr sj (bl++[ext]) aB u0 u1 u2 u3 u4∧eu ns sj (bl++[ext])∧aK B W wr (aJ FB mm aB v0 v1 v2 v3 v4) (aJ FB mm aB u0 u1 u2 u3 u4))) (fun iv _=>P - (intOf iv).toNat)
 case atStart=>exact⟨0,s,rfl,Nat.zero_le _,hid ⟨He.out,fI.refl HI.out _,rfl,[],v0,v1,v2,v3,v4,rfl,HF.out,xE.out,aK.refl _ _ _⟩⟩
 case round=>
  obtain⟨j,sj,rfl,hj,hJ⟩:=hrel;obtain⟨XE,vO,MN,ext,u0,u1,u2,u3,u4,hxt,tj,XF,kV⟩:=hJ.out;have hj0:(0:Int)≤(j:Int):=af;have MP:=vO.v1;have Ez:=vO.f1;have ko:=vO.f0;have Aw:=gq kj.out.ahead kids;by_cases hjx:j<P
  ·have hjk:j<kids.length - 2:=by have:=HP.out;have:=Xd.out;omega
   have ji:j<kids.length:=af;obtain⟨ab,ao,eO,bO⟩:=Hk.out j ji;have eA:=(bO.step kV).cell;have dA:=lN.out kids[j] (List.getElem_mem ji);have oG:(kids.take (kids.length - 2)).drop j=kids[j]::(kids.take (kids.length - 2)).drop (j+1):=by
    rw [List.drop_eq_getElem_cons pW,List.getElem_take]
   have gM:kids.take (j+1)=kids.take j++[kids[j]]:=by rw [List.take_add_one,List.getElem?_eq_getElem ji];rfl
   obtain⟨z,hz⟩:∃z:Nat,kids[j]=(z:Int):=⟨(kids[j]).toNat,by omega⟩;rw [hz] at dA eA oG gM;have hzn:z<n:=af;have hzl:z<ns.length:=af;have hj1:(j:Int)<(P:Int):=af;have ale:=(mD.out.trans kV.below).mono h0;obtain⟨b,o,hp,lg,ct,aG,_,Fi,_,_⟩:=bh HN.out hzl;have k1:=(ale.cell (p:=⟨b,_,none⟩) lg).trans Fi;have ke:dS ns (z:Int)=(ns[z]).text.toList:=ri;have vT:(ns[z]).text.size≤maxLen:=aG.2.2.1;have d3:=(H3.out.step kV).cell;have d6:=(H6.out.step kV).cell;have lV:aB.length=bl.length+1:=by have:=tj.len;simpa using this
   have OU:bl.length<aB.length:=af;have Fj:=tj.maps bl.length aB[bl.length] ext (List.getElem?_eq_getElem OU) ak;obtain⟨g4,c4,hv4,hg4,Nc,agG,agH⟩:=tN tj.blocks OU ak;rw [List.getElem?_map,List.getElem?_eq_getElem OU] at Nc;simp only [Option.map_some] at Nc;obtain⟨cz,_,hlk⟩:=Fj.look vT;rw [←ke,X0 hxt] at hlk;generalize aB[bl.length]=mb at*;obtain⟨BL,hBL⟩:∃BL,BL=bl.length:=⟨_,rfl⟩;obtain⟨Q,hQ⟩:∃Q,Q=aB.length:=⟨_,rfl⟩;rw [←hBL] at Nc;have hBQ:(Q:Int) - 1=(BL:Int):=af;have awm:(BL:Int)<(Q:Int):=af;have awn:(0:Int)≤(BL:Int):=af;have awo:(Q:Int)≤100001:=af;have e0:wr.cell? ⟨FB,0,none⟩=some (.slice (some ⟨b,o,none⟩) ns.length c):=by rw [←hp];exact tj.cell 0
   have e5:wr.cell? ⟨FB,5,none⟩=some (.slice (some ⟨g4,0,none⟩) Q c4):=by rw [hQ,←hv4];exact tj.cell 5
   have hwr:IntKind.i64.wrap (BL:Int)=(BL:Int):=nr af af;have z0:(0:Int)≤(z:Int):=af;have awp:sj.vars.length≤100000:=af;have z1:(z:Int)<(ns.length:Int):=af;obtain⟨tw,htw⟩:∃tw,tw=(kids.take j).any (fun m=>dS ns (z:Int)==dS ns m):=⟨_,rfl⟩;rw [←htw] at hlk;have X1:=hid tj;have HSj:=hid XF;have HGj:=hid vO;have CL:=hid kV;have HEj:=hid MN;have Hej:=hid XE;have Hxt:=hid hxt;have tD:=hid oG;have lR:=hid gM;have Htw:=hid htw;have XG:=hid eO;rw [eO];generalize ns[z]=x at*;clear hJ tj XF vO kV MN hxt oG gM htw XE ale Fi ct Fj hv4 hz bO hQ hBL aG eO ke hp Aw;cases tw with
   |true=>
    go_wp2;go_quiet (fail);rename_i nq;go_wp2_with (go_at_call 216;(with_reducible refine(lp _ _ _ _).mono ?_);rintro e w' ⟨rfl,rfl⟩);have hX:=HEj.out;rw [tD.out] at hX;obtain⟨ha,hb⟩:=C8 (ns:=ns) (fn:=(fn:Int)) (pre:=kids.take j) (ks:=(kids.take (kids.length - 2)).drop (j+1)) (k:=(z:Int)) Hej.out Htw.out.symm;rw [hX] at ha hb;have hs:s1=cg ns fn [] (kids.take (kids.length - 2)) s:=by rw [Hs1.out];exact jn ns k _ _ _ (by rw [ha];decide)
    refine⟨rfl,cE.fails (a:=(z:Int)) (ee:=110) aj (by rw [hs];exact ha) (by rw [hs];exact hb) rfl ?_⟩;exact(CL.out.trans (aK.fresh (O:=aJ FB mm aB u0 u1 u2 u3 u4) (below_drewN _ _) Ln)).weak
   |false=>
    have X2:=hid (fun nq=>Jn ((X1.out.later (below_drewN wr nq))) HGj.out.inv HSj.out HN.out h0 ((mD.out.trans CL.out.below).trans ((below_drewN wr nq).mono Ln)) z fn hzl af af af af Hej.out);go_wp2;go_quiet (fail);rename_i nq;go_wp2_with (first
     |(go_at_call 216;(with_reducible refine(jK _ _ _ _).mono ?_);rintro e w' ⟨rfl,rfl⟩)
     |(go_at_call 220;refine(X2.out nq).mono ?_))
    intro e w9 hE;have hX:=HEj.out;rw [tD.out,Fh Hej.out Htw.out.symm,←lR.out] at hX;have hga:=jI HGj.out.inv ns (z:Int) (fn:Int) af;by_cases h1:(cY ns sj (z:Int) (fn:Int)).e=0
    ·obtain⟨rfl,x',t0,t1,t2,t3,t4,Jo,xY,Io,fD⟩:=hE.1 h1;have HNx:=hid (show ∃(ext:ey) (u0 u1 u2 u3 u4:Value),ext.map (·.1)=(kids.take (j+1)).map (dS ns)∧bF B FB p c ns.length mm (cY ns sj (z:Int) (fn:Int)).vars.length w9 (cY ns sj (z:Int) (fn:Int)) (bl++[ext]) aB u0 u1 u2 u3 u4∧eu ns (cY ns sj (z:Int) (fn:Int)) (bl++[ext])∧aK B W w9 (aJ FB mm aB v0 v1 v2 v3 v4) (aJ FB mm aB u0 u1 u2 u3 u4) from⟨ext++x',t0,t1,t2,t3,t4,by rw [lR.out,List.map_append,List.map_append,Hxt.out,Jo];rfl,xY,Io,CL.out.trans ((aK.fresh (O:=aJ FB mm aB u0 u1 u2 u3 u4) (below_drewN wr nq) Ln).trans fD)⟩);have H1:=hid h1;have HX:=hid hX;have Hga:=hid hga;clear hE xY Io fD h1 hX hga;go_wp2;go_roundw
     case rel=>exact⟨j+1,cY ns sj (z:Int) (fn:Int),by go_num,by omega,hid ⟨H1.out,HGj.out.trans Hga.out,HX.out,HNx.out⟩⟩
     case measure=>simp [intOf];omega
    ·obtain⟨rfl,fD⟩:=hE.2 h1;have hps:=n6 ns (fn:Int) ((kids.take (kids.length - 2)).drop (j+1)) (kids.take (j+1)) h1;rw [hX] at hps;have hs:s1=cg ns fn [] (kids.take (kids.length - 2)) s:=by rw [Hs1.out];exact jn ns k _ _ _ (hps.ne h1)
     refine⟨rfl,cE.fails (a:=(cY ns sj (z:Int) (fn:Int)).bE) (ee:=(cY ns sj (z:Int) (fn:Int)).e) h1 (by rw [hs];exact hps.1) (by rw [hs];exact hps.2) rfl ?_⟩;exact(CL.out.trans ((aK.fresh (O:=aJ FB mm aB u0 u1 u2 u3 u4) (below_drewN wr nq) Ln).trans fD)).weak
  ·obtain rfl:j=P:=by omega
   have ji:kids.length - 1<kids.length:=by have:=Hh2.out;omega
   have hsj:cg ns fn [] (kids.take (kids.length - 2)) s=sj:=by
    rw [←MN,List.drop_eq_nil_of_le (by rw [List.length_take];have:=HP.out;have:=Xd.out;omega)];rfl
   obtain⟨ab,ao,eO,bO⟩:=Hk.out (kids.length - 1) ji;have eA:=(bO.step kV).cell;have dA:=lN.out kids[kids.length - 1] (List.getElem_mem ji);obtain⟨z,hz⟩:∃z:Nat,kids[kids.length - 1]=(z:Int):=⟨(kids[kids.length - 1]).toNat,by omega⟩;have hgd:kids.getD (kids.length - 1) 0=(z:Int):=by rw [aZ ji,hz]
   rw [hz] at dA eA;have hzn:z<n:=af;have d3:=(H3.out.step kV).cell;have d6:=(H6.out.step kV).cell;have d7:=(H7.out.step kV).cell;have oH:fV ns (kids.take (kids.length - 1))+wt ns z≤fV ns kids:=by have:=eB (ns:=ns) kids (kids.length - 1) ji;rw [hz] at this;exact this
   have Bx:=gq kj.out.ahead (kids.take (kids.length - 1));rw [List.length_take] at Bx;have hpl:j≤kids.length - 2:=by have:=HP.out;have:=Xd.out;omega
   have hsR:s1=aA ns k (z:Int) fn false sj:=by rw [Hs1.out,hgd,hsj]
   obtain⟨R,hR⟩:∃R,R=kids.length - 1:=⟨_,rfl⟩;rw [←hR] at eA;have hR0:(xl:Int) - 1=(R:Int):=by have:=Xd.out;have:=Hh2.out;omega
   have jX:(0:Int)≤(R:Int):=af;have qZ:(R:Int)<(xl:Int):=af;have hwr:IntKind.i64.wrap (R:Int)=(R:Int):=nr af af;have HC:=hid (je.out z hzn fn false wr.drew sj bl ext aB u0 u1 u2 u3 u4 (tj.later (Below.refl _ _).drew) vO.inv XF ((mD.out.trans kV.below).trans (Below.refl _ _).drew) af af af af XE);have CL:=hid kV;have HsR:=hid hsR;have hBw:B≤wr.heap.size:=by have:=tj.lt;have:=tj.ge;omega
   rw [eO] at d7;clear hJ XE vO MN tj XF kV hsj bO hz hgd oH Bx hsR hR eO MP Ez ko Aw hxt;go_wp2;go_still_tail 8,ai;go_wp2_with (go_at_call 172;refine(HC.out).mono ?_);intro e w9 hE;have nU:cE B FB p c ns mm aB (aJ FB mm aB v0 v1 v2 v3 v4) W bl [] s1 e w9:=by
    rw [HsR.out];exact cE.trans (nm:=[]) (ext:=ext) (CL.out.trans (aK.fresh (O:=aJ FB mm aB u0 u1 u2 u3 u4) (Below.refl _ _).drew hBw)) hE
   by_cases h1:(aA ns k (z:Int) (fn:Int) false sj).e=0
   ·obtain rfl:=(hE.1 h1).1;exact Qi
   ·obtain rfl:=(hE.2 h1).1;exact⟨rfl,nU⟩
end
end Go.Proofs.YtjchnliaglecoaaGreatDoor

/- A part of the proof. Conditions: none. -/
set_option maxRecDepth 100000
set_option maxHeartbeats 8000000
namespace Go.Proofs.YtjchnliaglecoaaGreatDoor
open Go Go.RowKit Go.Nodes Go.Maps Go.WideMaps Go.ChangeShapes
structure My (B mm N:Nat) (w:World) (s:Fs) (bl:List ey) (aB:List Nat) (v0 v4:Value):Prop where
 vars:w.ownsRow B 114 4 v0 s.vars.length (cx s.vars)
 blocks:w.ownsRow B 119 1 v4 aB.length (aB.map fun b=>.map (some b))
 maps:∀(i b:Nat) (nm:ey),aB[i]?=some b→bl[i]?=some nm→fe w b nm
 many:sD w mm s.many N
theorem My.kept {B mm N:Nat} {w w':World} {s:Fs} {bl:List ey} {aB:List Nat} {v0 v4:Value} (h:My B mm N w s bl aB v0 v4) {row:Option Nat} (hg:w.grownBy w' row) (hr:∀g,row=some g→∃cs t fz,w.heap[g]?=some (.cells cs t fz)∧t≠114∧t≠119):My B mm N w' s bl aB v0 v4:=by
 have key:∀{e size n:Nat} {xs:List Value} {v:Value},(e=114∨e=119)→w.ownsRow B e size v n xs→w'.ownsRow B e size v n xs:=fun {e size n xs v} he ho=>by
  refine ho.kept hg ?_;cases hv:v.ownBlock with
  |none=>exact .inl rfl
  |some g=>
   refine .inr fun e2=>?_
   obtain⟨cs,t,fz,hh,h1,h2⟩:=hr g e2.symm;obtain⟨cs2,fz2,Jc⟩:=jW ho hv;rw [hh] at Jc;cases Jc;rcases he with he|he
   ·exact h1 he
   ·exact h2 he
 refine⟨key (.inl rfl) h.vars,key (.inr rfl) h.blocks,fun i b nm a e=>?_, ?_⟩
 ·have hm:=h.maps i b nm a e;obtain⟨es,uZ,hh⟩:=hm.map;refine hm.kept hg fun e2=>?_
  obtain⟨cs,t,fz,h2,_⟩:=hr b e2.symm;rw [hh] at h2;cases h2
 ·obtain⟨es,uZ,hh⟩:=h.many.map;refine h.many.kept hg fun e2=>?_
  obtain⟨cs,t,fz,h2,_⟩:=hr mm e2.symm;rw [hh] at h2;cases h2
section
variable {B FB mm N:Nat} {p:Option Addr} {c L:Nat} {s:Fs} {bl:List ey} {aB:List Nat} {v0 v1 v2 v3 v4:Value} {n up:Int} {WX w w':World} {f:Nat→Bool} {ca:Act}
structure lJ (B FB mm N:Nat) (p:Option Addr) (c L:Nat) (s:Fs) (bl:List ey) (aB:List Nat) (v0 v1 v2 v3 v4:Value) (n up:Int) (WX:World) (f:Nat→Bool) (ca:Act) (w:World):Prop where
 below:Below B WX w
 keep:∀g,g<WX.heap.size→¬aJ FB mm aB v0 v1 v2 v3 v4 g→w.heap[g]?=WX.heap[g]?
 size:WX.heap.size≤w.heap.size
 len:37<ca.tmps.size
 heap:w.heap[FB]?=some (.cells #[.slice p L c,v0,v1,bif f 21 then ca.tmps.getD 23 undef else v2,bif f 25 then ca.tmps.getD 31 undef else v3,v4,.map (some mm)] 189 (0,0))
 rows:gh B w [v1,bif f 9 then ca.tmps.getD 23 undef else v2,bif f 17 then ca.tmps.getD 31 undef else v3] [s.uses,bif f 9 then s.funcs++[n] else s.funcs,bif f 17 then s.cF++[up] else s.cF]
 rest:My B mm N w s bl aB v0 v4
 Ol:f 9=true→∀g,(ca.tmps.getD 23 undef).ownBlock=some g→v2.ownBlock=some g∨WX.heap.size≤g
 Om:f 17=true→∀g,(ca.tmps.getD 31 undef).ownBlock=some g→v3.ownBlock=some g∨WX.heap.size≤g
theorem lJ.put (h:lJ B FB mm N p c L s bl aB v0 v1 v2 v3 v4 n up WX f ca w) {k:Nat} {d:Tmp} {v:Value} (hk:9≠k∧17≠k∧21≠k∧25≠k) (hd:d≠23∧d≠31):lJ B FB mm N p c L s bl aB v0 v1 v2 v3 v4 n up WX (fun j=>if j=k then true else f j) (ca.put (some d) v) w:=by
 obtain⟨k1,k2,k3,k4⟩:=hk;obtain⟨d1,d2⟩:=hd;refine⟨h.below,h.keep,h.size,by simpa [Act.put] using h.len, ?_, ?_,h.rest, ?_, ?_⟩
 ·simp only [upd_ne k3,upd_ne k4,Am.aR d1,Am.aR d2];exact h.heap
 ·simp only [upd_ne k1,upd_ne k2,Am.aR d1,Am.aR d2];exact h.rows
 ·simp only [upd_ne k1,Am.aR d1];exact h.Ol
 ·simp only [upd_ne k2,Am.aR d2];exact h.Om
theorem lJ.alloc (h:lJ B FB mm N p c L s bl aB v0 v1 v2 v3 v4 n up WX f ca w) (hB:B≤WX.heap.size) (o:Obj):lJ B FB mm N p c L s bl aB v0 v1 v2 v3 v4 n up WX f ca (w.alloc o):=by
 have hb:Below w.heap.size w (w.alloc o):=(Below.refl _ _).alloc (Nat.le_refl _) o;have hs:=h.size;exact⟨h.below.trans (hb.mono af),fun g hg hO=>(hb.block g af).trans (h.keep g hg hO),Nat.le_trans hs hb.size,h.len,by rw [hb.block FB (Array.getElem?_eq_some_iff.1 h.heap).1];exact h.heap,h.rows.later hb,h.rest.kept (World.grownBy_alloc w o none) (fun g e=>nomatch e),h.Ol,h.Om⟩
theorem GS {v:Value} {l:List Int} (h:Ints B w v l):∀g,v.ownBlock=some g→∃cs t fz,w.heap[g]?=some (.cells cs t fz)∧t≠114∧t≠119:=fun g e=>by
 obtain⟨cs,fz,hh⟩:=jW h e;exact⟨cs,3,fz,hh,by decide,by decide⟩
theorem lJ.asU {v':Value} (h:lJ B FB mm N p c L s bl aB v0 v1 v2 v3 v4 n up WX f ca w) (hB:B≤WX.heap.size) (hf:f 9=false) (hf2:f 21=false) (hg:w.grownBy w' v2.ownBlock) (hown:Ints B w' v' (s.funcs++[n])) (vp:v'.ownBlock=v2.ownBlock∨v'.ownBlock=some w.heap.size):
  lJ B FB mm N p c L s bl aB v0 v1 v2 v3 v4 n up WX (fun j=>if j=9 then true else f j) (ca.put (some 23) v') w':=by
 have hr:=h.rows;rw [hf] at hr;have hI:=hr.rows 1 _ _ rfl rfl;have hne:=fF hI h.heap aj;have hs:=h.size;have o9:∀k,v2.ownBlock=some k→B≤k:=fun k hk=>(hI.lt k hk).1
 refine⟨h.below.grown hg af o9,fun g hg1 hO=>?_,Nat.le_trans hs hg.size,by simpa [Act.put] using h.len, ?_, ?_,h.rest.kept hg (GS hI), ?_, ?_⟩
 ·rw [hg.block g af (fun e=>hO (.inr (.inr (.inr (.inr (.inr (.inl e.symm))))))),h.keep g hg1 hO]
 ·rw [hg.block FB (Array.getElem?_eq_some_iff.1 h.heap).1 (fun e=>hne e.symm),h.heap];simp only [upd_ne (show(21:Nat)≠9 by decide),upd_ne (show(25:Nat)≠9 by decide),hf2,cond_false,Am.aR (show(23:Tmp)≠31 by decide)];rfl
 ·simp only [upd_ne (show(17:Nat)≠9 by decide),if_true,cond_true,Am.aR (show(23:Tmp)≠31 by decide),Am.fC (show 23<ca.tmps.size by have:=h.len;omega)];exact hr.put 1 rfl hg hown vp
 ·intro _ g hg2;rw [Am.fC (show 23<ca.tmps.size by have:=h.len;omega)] at hg2;exact UX
 ·simp only [upd_ne (show(17:Nat)≠9 by decide),Am.aR (show(23:Tmp)≠31 by decide)];exact h.Om
theorem lJ.anH {v':Value} (h:lJ B FB mm N p c L s bl aB v0 v1 v2 v3 v4 n up WX f ca w) (hB:B≤WX.heap.size) (hf:f 17=false) (hf2:f 25=false) (hg:w.grownBy w' v3.ownBlock) (hown:Ints B w' v' (s.cF++[up])) (vp:v'.ownBlock=v3.ownBlock∨v'.ownBlock=some w.heap.size):
  lJ B FB mm N p c L s bl aB v0 v1 v2 v3 v4 n up WX (fun j=>if j=17 then true else f j) (ca.put (some 31) v') w':=by
 have hr:=h.rows;rw [hf] at hr;have hI:=hr.rows 2 _ _ rfl rfl;have hne:=fF hI h.heap aj;have hs:=h.size;have o9:∀k,v3.ownBlock=some k→B≤k:=fun k hk=>(hI.lt k hk).1
 refine⟨h.below.grown hg af o9,fun g hg1 hO=>?_,Nat.le_trans hs hg.size,by simpa [Act.put] using h.len, ?_, ?_,h.rest.kept hg (GS hI), ?_, ?_⟩
 ·rw [hg.block g af (fun e=>hO (.inr (.inr (.inr (.inr (.inr (.inr (.inl e.symm)))))))),h.keep g hg1 hO]
 ·rw [hg.block FB (Array.getElem?_eq_some_iff.1 h.heap).1 (fun e=>hne e.symm),h.heap];simp only [upd_ne (show(21:Nat)≠17 by decide),upd_ne (show(25:Nat)≠17 by decide),hf2,cond_false,Am.aR (show(31:Tmp)≠23 by decide)];rfl
 ·simp only [upd_ne (show(9:Nat)≠17 by decide),if_true,cond_true,Am.aR (show(31:Tmp)≠23 by decide),Am.fC (show 31<ca.tmps.size by have:=h.len;omega)];exact hr.put 2 rfl hg hown vp
 ·simp only [upd_ne (show(9:Nat)≠17 by decide),Am.aR (show(31:Tmp)≠23 by decide)];exact h.Ol
 ·intro _ g hg2;rw [Am.fC (show 31<ca.tmps.size by have:=h.len;omega)] at hg2;exact UX
theorem Cs {w:World} {xs:List Value} {ls:List (List Int)} {cs:Array Value} (h:gh B w xs ls) (hh:w.heap[FB]?=some (.cells cs 189 (0,0))) (i:Nat) (x:Value):gh B (w.setCell ⟨FB,i,none⟩ x) xs ls:=
 ⟨h.len,fun k v l a b=>(h.rows k v l a b).kept (dY w FB i x) (by
  cases hv:v.ownBlock with
  |none=>exact .inl rfl
  |some g=>exact .inr fun e=>fF (h.rows k v l a b) hh aj (hv.trans e)),h.apart⟩
theorem lJ.anI (h:lJ B FB mm N p c L s bl aB v0 v1 v2 v3 v4 n up WX f ca w) (fR:B≤FB) {x:Value} (hx:ca.tmps.getD 23 undef=x) (v:Value):lJ B FB mm N p c L s bl aB v0 v1 v2 v3 v4 n up WX (fun j=>if j=21 then true else f j) (ca.put none v) (w.setCell ⟨FB,3,none⟩ x):=by
 refine⟨h.below.setCell (p:=⟨FB,3,none⟩) fR _,fun g hg hO=>(Below.heap_setCell _ _ _ _ (fun e=>hO (.inl e))).trans (h.keep g hg hO),by simpa using h.size,h.len, ?_, ?_,h.rest.kept (dY w FB 3 x) (fun g e=>by cases e;exact⟨_,_,_,h.heap,by decide,by decide⟩), ?_, ?_⟩
 ·rw [cq h.heap _ _];simp only [upd_ne (show(25:Nat)≠21 by decide),if_true,cond_true,Act.put,hx];rfl
 ·simp only [upd_ne (show(9:Nat)≠21 by decide),upd_ne (show(17:Nat)≠21 by decide)];exact Cs h.rows h.heap 3 x
 ·simp only [upd_ne (show(9:Nat)≠21 by decide)];exact h.Ol
 ·simp only [upd_ne (show(17:Nat)≠21 by decide)];exact h.Om
theorem lJ.anJ (h:lJ B FB mm N p c L s bl aB v0 v1 v2 v3 v4 n up WX f ca w) (fR:B≤FB) {x:Value} (hx:ca.tmps.getD 31 undef=x) (v:Value):lJ B FB mm N p c L s bl aB v0 v1 v2 v3 v4 n up WX (fun j=>if j=25 then true else f j) (ca.put none v) (w.setCell ⟨FB,4,none⟩ x):=by
 refine⟨h.below.setCell (p:=⟨FB,4,none⟩) fR _,fun g hg hO=>(Below.heap_setCell _ _ _ _ (fun e=>hO (.inl e))).trans (h.keep g hg hO),by simpa using h.size,h.len, ?_, ?_,h.rest.kept (dY w FB 4 x) (fun g e=>by cases e;exact⟨_,_,_,h.heap,by decide,by decide⟩), ?_, ?_⟩
 ·rw [cq h.heap _ _];simp only [upd_ne (show(21:Nat)≠25 by decide),if_true,cond_true,Act.put,hx];rfl
 ·simp only [upd_ne (show(9:Nat)≠25 by decide),upd_ne (show(17:Nat)≠25 by decide)];exact Cs h.rows h.heap 4 x
 ·simp only [upd_ne (show(9:Nat)≠25 by decide)];exact h.Ol
 ·simp only [upd_ne (show(17:Nat)≠25 by decide)];exact h.Om
theorem lJ.done (h:lJ B FB mm N p c L s bl aB v0 v1 v2 v3 v4 n up WX f ca w) (hF:bF B FB p c L mm N WX s bl aB v0 v1 v2 v3 v4) (hall:∀i,i<26→f i=true):
  bF B FB p c L mm N w (dV s n up) bl aB v0 v1 (ca.tmps.getD 23 undef) (ca.tmps.getD 31 undef) v4∧aK B WX w (aJ FB mm aB v0 v1 v2 v3 v4) (aJ FB mm aB v0 v1 (ca.tmps.getD 23 undef) (ca.tmps.getD 31 undef) v4):=by
 have h1:=h.heap;have h2:=h.rows;rw [hall 21 aj,hall 25 aj] at h1;rw [hall 9 aj,hall 17 aj] at h2;refine⟨⟨hF.ge,h1,h2,h.rest.vars,h.rest.blocks,hF.len,h.rest.maps,hF.jY,hF.nodup, ?_,hF.ju,hF.jZ⟩,⟨h.below,h.keep,fun g hO=>?_⟩⟩
 ·obtain⟨k,D,a,b,d⟩:=h.rest.many.own;refine⟨k,D,a,b,fun fn=>?_⟩;have e:s.many.getD fn 0=(dV s n up).many.getD fn 0:=?e1
  ·rw [d fn,e]
  show s.many.getD fn 0=(s.many++[0]).getD fn 0;simp only [List.getD_eq_getElem?_getD];by_cases hlt:fn<s.many.length
  ·rw [List.getElem?_append_left hlt]
  ·rw [List.getElem?_append_right af,List.getElem?_eq_none af];by_cases h0:fn - s.many.length=0
   ·rw [h0];rfl
   ·rw [List.getElem?_eq_none bt]
 ·rcases hO with e|e|e|e|e|e|e|e
  ·exact .inl (.inl e)
  ·exact .inl (.inr (.inl e))
  ·exact .inl (.inr (.inr (.inl e)))
  ·exact .inl (.inr (.inr (.inr (.inl e))))
  ·exact .inl (.inr (.inr (.inr (.inr (.inl e)))))
  ·rcases h.Ol (hall 9 aj) g e with e|e
   ·exact .inl (.inr (.inr (.inr (.inr (.inr (.inl e))))))
   ·exact .inr e
  ·rcases h.Om (hall 17 aj) g e with e|e
   ·exact .inl (.inr (.inr (.inr (.inr (.inr (.inr (.inl e)))))))
   ·exact .inr e
  ·exact .inl (.inr (.inr (.inr (.inr (.inr (.inr (.inr e)))))))
end
def ab8 (FB N0:Nat) (v2 v3:Value) (n up:Int):Nat→World→Value→Prop
 |0,w,v=>v=.pointer (some ⟨FB,0,none⟩)
 |1,w,v=>v=.pointer (some ⟨FB,0,none⟩)
 |2,w,v=>v=.pointer (some ⟨FB,0,none⟩)
 |3,w,v=>v=.pointer (some ⟨FB,0,none⟩)
 |4,w,v=>v=.pointer (some ⟨FB,1,none⟩)
 |5,w,v=>v=.pointer (some ⟨FB,3,none⟩)
 |6,w,v=>v=v2
 |7,w,v=>v=.int .i64 n
 |8,w,v=>∃U:Nat,v=.slice (some ⟨U,0,none⟩) 1 1∧N0≤U∧w.heap[U]?=some (.cells #[.int .i64 n] 3 (0,0))
 |9,w,v=>∃(a:Option Addr) (k1 k2:Nat),v=.slice a k1 k2
 |10,w,v=>v=.pointer (some ⟨FB,0,none⟩)
 |11,w,v=>v=.pointer (some ⟨FB,0,none⟩)
 |12,w,v=>v=.pointer (some ⟨FB,1,none⟩)
 |13,w,v=>v=.pointer (some ⟨FB,4,none⟩)
 |14,w,v=>v=v3
 |15,w,v=>v=.int .i64 up
 |16,w,v=>∃U:Nat,v=.slice (some ⟨U,0,none⟩) 1 1∧N0≤U∧w.heap[U]?=some (.cells #[.int .i64 up] 3 (0,0))
 |17,w,v=>∃(a:Option Addr) (k1 k2:Nat),v=.slice a k1 k2
 |18,w,v=>v=.pointer (some ⟨FB,0,none⟩)
 |19,w,v=>v=.pointer (some ⟨FB,1,none⟩)
 |20,w,v=>v=.pointer (some ⟨FB,3,none⟩)
 |21,w,v=>True
 |22,w,v=>v=.pointer (some ⟨FB,0,none⟩)
 |23,w,v=>v=.pointer (some ⟨FB,1,none⟩)
 |24,w,v=>v=.pointer (some ⟨FB,4,none⟩)
 |_,w,v=>True
theorem Oo {FB N0:Nat} {v2 v3:Value} {n up:Int}:∀(i j:Nat) (w w':World) (v:Value),i≠j→(fun _ _=>false:Nat→Nat→Bool) i j=false→zf N0 i w w'→ab8 FB N0 v2 v3 n up j w v→ab8 FB N0 v2 v3 n up j w' v:=by
 intro i j w w' v _ _ hS h;unfold ab8 at*;exact Sj
theorem Gn {B FB mm:Nat} {p:Option Addr} {c:Nat} {ns:List Nd} {W0:World} (ht:Tree ns) (hN:ay W0 p ns) (bz:∀x∈ns,x.kids.length≤x.aP) (h0:W0.heap.size≤B) (k n:Nat) (hn:n<ns.length) (kU:n≤k) (hk2:2≤(ax ns (n:Int)).length) (IH:∀q,q<n→jG B FB mm p c ns W0 k q) (up:Nat) (W:World) (s:Fs) (bl:List ey) (nm:ey) (aB:List Nat) (v0 v1 v2 v3 v4:Value)
  (hF:bF B FB p c ns.length mm s.vars.length W s (bl++[nm]) aB v0 v1 v2 v3 v4) (hi:cN ns.length s) (fy:eu ns s (bl++[nm])) (hb0:Below B W0 W) (hsz:s.vars.length+wt ns n≤100000) (lK:s.funcs.length+wt ns n≤100000) (hbl:bl.length+wt ns n≤100000) (he:s.e=0):
  Calls Tryz.prog 219 #[.pointer (some ⟨FB,0,none⟩),.int .i64 n,.int .i64 up] W (cE B FB p c ns mm aB (aJ FB mm aB v0 v1 v2 v3 v4) W bl nm (j9 ns (aA ns k) n up s)):=by
 have Qo:=fQ ht.ahead n;have aq6:s.cF.length≤100000:=by rw [hi.cF];omega
 have ahy:s.funcs.length≤100000:=af;obtain⟨sv2,sc2,Sk⟩:∃sv sc,v2=.slice sv s.funcs.length sc:=by
  exact Sl
 have c3:W.cell? ⟨FB,3,none⟩=some (.slice sv2 s.funcs.length sc2):=by rw [←Sk];exact hF.cell 3
 have sg:=hF.lt;have fR:=hF.ge;have Au:B≤W.heap.size:=af;obtain⟨WX,hWX⟩:∃WX,WX=(W.alloc (.cells #[.pointer (some ⟨FB,0,none⟩)] 185)).alloc (.cells #[.int .i64 s.funcs.length] 3):=⟨_,rfl⟩;have ab9:Below W.heap.size W WX:=by rw [hWX];exact(au W _).trans ((au _ _).mono ak)
 have anK:W.heap.size≤WX.heap.size:=ab9.size;have azj:WX.heap.size=W.heap.size+2:=by rw [hWX];simp
 have hFX:=hF.later ab9;have hx3:WX.heap[W.heap.size]?=some (.cells #[.pointer (some ⟨FB,0,none⟩)] 185 (0,0)):=by rw [hWX,(au _ _).block _ ak];exact heap_alloc_new _ _
 have hx6:WX.heap[W.heap.size+1]?=some (.cells #[.int .i64 s.funcs.length] 3 (0,0)):=by rw [hWX];have:=heap_alloc_new (W.alloc (.cells #[.pointer (some ⟨FB,0,none⟩)] 185)) (.cells #[.int .i64 s.funcs.length] 3);rw [show(W.alloc (.cells #[.pointer (some ⟨FB,0,none⟩)] 185)).heap.size=W.heap.size+1 by simp] at this;exact this
 have hno:∀g,W.heap.size≤g→¬aJ FB mm aB v0 v1 v2 v3 v4 g:=fun g hg hO=>by have:=(hF.dr hO).2;omega
 have hBX:B≤WX.heap.size:=af;have Sm:∀g,v2.ownBlock=some g→g<W.heap.size:=fun g e=>((hF.rows.rows 1 _ _ rfl rfl).lt g e).2
 have Sn:∀g,v3.ownBlock=some g→g<W.heap.size:=fun g e=>((hF.rows.rows 2 _ _ rfl rfl).lt g e).2
 have AV:∀ca,37<ca.tmps.size→lJ B FB mm s.vars.length p c ns.length s (bl++[nm]) aB v0 v1 v2 v3 v4 n up WX (fun _=>false) ca WX.drew:=fun ca bf=>⟨(Below.refl _ _).drew,fun _ _ _=>rfl,Nat.le_refl _,bf,hFX.heap,hFX.rows.later (Below.refl _ _).drew,⟨bR hFX.vars (Below.refl _ _).drew,bR hFX.blocks (Below.refl _ _).drew,(hFX.later (Below.refl _ _).drew).maps,(hFX.later (Below.refl _ _).drew).many⟩,(fun h=>nomatch h),(fun h=>nomatch h)⟩
 have amX:Hid (∀f ca w1,lJ B FB mm s.vars.length p c ns.length s (bl++[nm]) aB v0 v1 v2 v3 v4 n up WX f ca w1→w1.cell? ⟨W.heap.size,0,none⟩=some (.pointer (some ⟨FB,0,none⟩))):=hid (fun f ca w1 hI=>by
  simp only [World.cell?,hI.keep W.heap.size af (hno _ (Nat.le_refl _)),hx3];rfl)
 have xM:=hid hFX;have Hx3:=hid hx3;have Hx6:=hid hx6;have Bu:=hid hno;have HF:=hid hF;have HN:=hid hN;have HC:=hid bz;have Hi:=hid hi;have xE:=hid fy;have He:=hid he;have anL:=hid ab9;clear hF hN hi fy Sk bz he hFX hx3 hx6 hno ab9;go_enter Tryz.func219,Tryz.ntmps219;go_wp2;rw [←hWX];clear hWX;refine wp_region_any ai ?_;refine Am.eT (Φ:=ab8 FB W.heap.size v2 v3 (n:Int) (up:Int)) (I:=lJ B FB mm s.vars.length p c ns.length s (bl++[nm]) aB v0 v1 v2 v3 v4 (n:Int) (up:Int) WX) (S:=zf W.heap.size) ai ai (fun _ _=>false) (fun z=>by unfold Am.mj;exact List.all_eq_true.2 fun _ _=>rfl) Oo ?_ ?_ _ (AV _ (Nat.le_of_ble_eq_true rfl))
 ·intro kq o ca w1 f ho hI NG NH ah K hK;have hfn:∀f,ca.eval (.func f)=.func (.func f) #[] #[]:=fun _=>rfl
  have hcs:∀v,ca.eval (.const v)=v:=fun _=>rfl
  rcases kq with _|_|_|_|_|_|_|_|_|_|_|_|_|_|_|_|_|_|_|_|_|_|_|_|_|_|kq
  ·exact D1
  ·exact D1
  ·exact D1
  ·cases ho;have aQ:=Am.lk 16 2 ah fun _=>rfl
   exact dJ
  ·cases ho;have aQ:=Am.lk 17 3 ah fun _=>rfl
   exact dJ
  ·cases ho;have aQ:=Am.lk 18 4 ah fun _=>rfl
   exact dJ
  ·cases ho;have aQ:=Am.lk 19 5 ah fun _=>rfl
   have hc3:w1.cell? ⟨FB,3,none⟩=some v2:=by
    have hf2:f 21=false:=NH 21 ai;exact DC
   exact Sq
  ·exact Sr
  ·cases ho;have aQ:=Am.lk 21 7 ah fun _=>rfl
   refine Am.aD rfl rfl (Am.aU (v:=.slice (some ⟨w1.heap.size,0,none⟩) 1 1) (w':=w1.alloc (.cells #[.int .i64 n] 3)) ?_ (hK _ _ ((hI.alloc hBX _).put (k:=8) aj aj) (jR _ _) ⟨w1.heap.size,rfl,Nat.le_trans anK hI.size,heap_alloc_new _ _⟩));exact yC
  ·cases ho;have aQ:=Am.lk 20 6 ah fun _=>rfl
   have h22:∃U:Nat,(ca.tmps.getD 22 undef)=.slice (some ⟨U,0,none⟩) 1 1∧W.heap.size≤U∧w1.heap[U]?=some (.cells #[.int .i64 (n:Int)] 3 (0,0)):=Am.aV (j:=8) ah ai rfl rfl;obtain⟨U,eU,hN0,hU⟩:=h22;have hb':=Am.aS eU;have Ez:f 9=false:=NG;have hf2:f 21=false:=NH 21 ai;have EE:=hI.rows;rw [Ez] at EE;have hrow:=EE.rows 1 _ _ rfl rfl;obtain⟨iI,Ao,Ap,Aq,Ar⟩:=info_parts Tryz.rB;obtain⟨v',w',hr,g2,g3,g4⟩:=di (P:=Tryz.prog) w1 B 26 26 3 iI (.int .i64 0) 1 8 Tryz.underlying26 Ao Ap Aq Ar rfl aj v2 s.funcs.length (s.funcs.map (Value.int .i64)) hrow ⟨U,0,none⟩ 1 1 aj [.int .i64 ((n:Int))] ak
    (fun j q hj=>by
     cases j with
     |zero=>simp at hj;subst hj;simp [Addr.add,World.cell?,hU]
     |succ j=>simp at hj) (fun q hq=>by simp at hq;subst hq;rfl) lf af F7
   have Lb:Ints B w' v' (s.funcs++[(n:Int)]):=B9;obtain⟨sa,DD,DG,tH⟩:∃(a:Option Addr) (k1 k2:Nat),v'=.slice a k1 k2:=by
    exact zg
   refine Am.aD rfl rfl (Am.aU (v:=v') (w':=w') ?_ (hK _ _ (hI.asU hBX Ez hf2 g3 Lb g4) (jS g3 Sm) ⟨sa,DD,DG,tH⟩));exact zh
  ·exact D1
  ·cases ho;have aQ:=Am.lk 24 10 ah fun _=>rfl
   exact dJ
  ·cases ho;have aQ:=Am.lk 25 11 ah fun _=>rfl
   exact dJ
  ·cases ho;have aQ:=Am.lk 26 12 ah fun _=>rfl
   exact dJ
  ·cases ho;have aQ:=Am.lk 27 13 ah fun _=>rfl
   have hc4:w1.cell? ⟨FB,4,none⟩=some v3:=by
    have hf2:f 25=false:=NH 25 ai;exact DC
   exact Ss
  ·exact Su
  ·cases ho;have aQ:=Am.lk 29 15 ah fun _=>rfl
   refine Am.aD rfl rfl (Am.aU (v:=.slice (some ⟨w1.heap.size,0,none⟩) 1 1) (w':=w1.alloc (.cells #[.int .i64 up] 3)) ?_ (hK _ _ ((hI.alloc hBX _).put (k:=16) aj aj) (jR _ _) ⟨w1.heap.size,rfl,Nat.le_trans anK hI.size,heap_alloc_new _ _⟩));exact yC
  ·cases ho;have aQ:=Am.lk 28 14 ah fun _=>rfl
   have h30:∃U:Nat,(ca.tmps.getD 30 undef)=.slice (some ⟨U,0,none⟩) 1 1∧W.heap.size≤U∧w1.heap[U]?=some (.cells #[.int .i64 (up:Int)] 3 (0,0)):=Am.aV (j:=16) ah ai rfl rfl;obtain⟨U,eU,hN0,hU⟩:=h30;have hb':=Am.aS eU;have Ez:f 17=false:=NG;have hf2:f 25=false:=NH 25 ai;have EE:=hI.rows;rw [Ez] at EE;have hrow:=EE.rows 2 _ _ rfl rfl;obtain⟨iI,Ao,Ap,Aq,Ar⟩:=info_parts Tryz.rB;obtain⟨v',w',hr,g2,g3,g4⟩:=di (P:=Tryz.prog) w1 B 26 26 3 iI (.int .i64 0) 1 8 Tryz.underlying26 Ao Ap Aq Ar rfl aj v3 s.cF.length (s.cF.map (Value.int .i64)) hrow ⟨U,0,none⟩ 1 1 aj [.int .i64 ((up:Int))] ak
    (fun j q hj=>by
     cases j with
     |zero=>simp at hj;subst hj;simp [Addr.add,World.cell?,hU]
     |succ j=>simp at hj) (fun q hq=>by simp at hq;subst hq;rfl) lf af F7
   have Lb:Ints B w' v' (s.cF++[(up:Int)]):=B9;obtain⟨sa,DD,DG,tH⟩:∃(a:Option Addr) (k1 k2:Nat),v'=.slice a k1 k2:=by
    exact zg
   refine Am.aD rfl rfl (Am.aU (v:=v') (w':=w') ?_ (hK _ _ (hI.anH hBX Ez hf2 g3 Lb g4) (jS g3 Sn) ⟨sa,DD,DG,tH⟩));exact zh
  ·cases ho;have aQ:=Am.lk 14 0 ah fun _=>rfl
   exact dJ
  ·cases ho;have aQ:=Am.lk 32 18 ah fun _=>rfl
   exact dJ
  ·cases ho;have aQ:=Am.lk 33 19 ah fun _=>rfl
   exact dJ
  ·cases ho;have aQ:=Am.lk 34 20 ah fun _=>rfl
   have h23:∃(a:Option Addr) (k1 k2:Nat),(ca.tmps.getD 23 undef)=.slice a k1 k2:=Am.aV (j:=9) ah ai rfl rfl;obtain⟨sa,DD,DG,tH⟩:=h23;have Zw:=Am.aS tH;have hfr:w1.frozen? ⟨FB,3,none⟩=false:=Cb;obtain⟨oc,hoc⟩:∃oc,w1.cell? ⟨FB,3,none⟩=some oc:=⟨_,by simp [World.cell?,hI.heap];rfl⟩;refine Am.aD rfl rfl (wp_skip (w':=w1.setCell ⟨FB,3,none⟩ (.slice sa DD DG)) ?_ (hK undef _ (hI.anI fR tH undef) (qJ sg _ _) trivial));exact DI
  ·cases ho;have aQ:=Am.lk 15 1 ah fun _=>rfl
   exact dJ
  ·cases ho;have aQ:=Am.lk 35 22 ah fun _=>rfl
   exact dJ
  ·cases ho;have aQ:=Am.lk 36 23 ah fun _=>rfl
   exact dJ
  ·cases ho;have aQ:=Am.lk 37 24 ah fun _=>rfl
   have h31:∃(a:Option Addr) (k1 k2:Nat),(ca.tmps.getD 31 undef)=.slice a k1 k2:=Am.aV (j:=17) ah ai rfl rfl;obtain⟨sa,DD,DG,tH⟩:=h31;have Zw:=Am.aS tH;have hfr:w1.frozen? ⟨FB,4,none⟩=false:=Cb;obtain⟨oc,hoc⟩:∃oc,w1.cell? ⟨FB,4,none⟩=some oc:=⟨_,by simp [World.cell?,hI.heap];rfl⟩;refine Am.aD rfl rfl (wp_skip (w':=w1.setCell ⟨FB,4,none⟩ (.slice sa DD DG)) ?_ (hK undef _ (hI.anJ fR tH undef) (qJ sg _ _) trivial));exact DI
  ·simp at ho
 ·intro ca w5 f hI hall hd hs aT bp;obtain⟨a23,Xt,Xu,h23⟩:∃(a:Option Addr) (k1 k2:Nat),ca.tmps.getD 23 undef=.slice a k1 k2:=aT 9 _ 23 rfl rfl (fun _=>rfl);obtain⟨a31,Xv,Xw,h31⟩:∃(a:Option Addr) (k1 k2:Nat),ca.tmps.getD 31 undef=.slice a k1 k2:=aT 17 _ 31 rfl rfl (fun _=>rfl);have hdone:=hI.done xM.out hall;rw [h23,h31] at hdone;have kg:=hI.keep;have asV:=hI.size;have af4:=hI.below;clear hI AV Sm Sn h23 h31 amX c3;have bf:=Am.bC hd hs bp;simp only [List.foldl_cons,List.foldl_nil] at bf;generalize ca.tmps.getD 14 undef=x14 at*;generalize ca.tmps.getD 15 undef=x15 at*;generalize ca.tmps.getD 16 undef=x16 at*;generalize ca.tmps.getD 17 undef=x17 at*;generalize ca.tmps.getD 18 undef=x18 at*;generalize ca.tmps.getD 19 undef=x19 at*;generalize ca.tmps.getD 20 undef=x20 at*;generalize ca.tmps.getD 21 undef=x21 at*;generalize ca.tmps.getD 22 undef=x22 at*;generalize ca.tmps.getD 23 undef=x23 at*;generalize ca.tmps.getD 24 undef=x24 at*;generalize ca.tmps.getD 25 undef=x25 at*;generalize ca.tmps.getD 26 undef=x26 at*;generalize ca.tmps.getD 27 undef=x27 at*;generalize ca.tmps.getD 28 undef=x28 at*;generalize ca.tmps.getD 29 undef=x29 at*;generalize ca.tmps.getD 30 undef=x30 at*;generalize ca.tmps.getD 31 undef=x31 at*;generalize ca.tmps.getD 32 undef=x32 at*;generalize ca.tmps.getD 33 undef=x33 at*;generalize ca.tmps.getD 34 undef=x34 at*;generalize ca.tmps.getD 35 undef=x35 at*;generalize ca.tmps.getD 36 undef=x36 at*;generalize ca.tmps.getD 37 undef=x37 at*;subst bf;simp only [List.setIfInBounds_toArray,List.set_cons_succ,List.set_cons_zero];have KG:∀g,W.heap.size≤g→g<WX.heap.size→w5.heap[g]?=WX.heap[g]?:=fun g h1 h2=>kg g h2 (Bu.out g h1)
  have b3:w5.heap[W.heap.size]?=some (.cells #[.pointer (some ⟨FB,0,none⟩)] 185 (0,0)):=(KG _ (Nat.le_refl _) af).trans Hx3.out;have b6:w5.heap[W.heap.size+1]?=some (.cells #[.int .i64 s.funcs.length] 3 (0,0)):=(KG _ af af).trans Hx6.out;have ajv:Below B W0 w5:=(hb0.trans (anL.out.mono Au)).trans af4;obtain⟨b,o,hp,bO,ct,aG,_,_,L8,_⟩:=bh HN.out hn;have k2:=((ajv.mono h0).cell (p:=⟨b,_,none⟩) bO).trans L8;have bW:ax ns (n:Int)=ns[n].kids:=iA;have F8:=HC.out ns[n] (List.getElem_mem hn);have fS:=cM ht n;rw [bW] at fS hk2;have c0:w5.cell? ⟨FB,0,none⟩=some (.slice (some ⟨b,o,none⟩) ns.length c):=by rw [←hp];exact hdone.1.cell 0
  have d3:w5.cell? ⟨W.heap.size,0,none⟩=some (.pointer (some ⟨FB,0,none⟩)):=by simp [World.cell?,b3]
  have n0:(0:Int)≤(n:Int):=af;have n1:(n:Int)<(ns.length:Int):=af;have hb6:W.heap.size+1<w5.heap.size:=af;have Wd:=hid hdone;have cH:=hid aG;have kH:=hid bW;have Hk2:=hid hk2;have Fp:=hid fS;have Hb3:=hid b3;have Hb6:=hid b6;have asW:=hid ajv;have je:=hid IH;have kj:=hid ht;have asX:W.heap.size<w5.heap.size:=af;have azo:¬W.heap.size=w5.heap.size:=af;have anM:Hid (∀w6,w6=w5.alloc (.cells #[.slice ns[n].kp ns[n].kids.length ns[n].aP] 26)→Calls Tryz.prog 217 #[.pointer (some ⟨FB,0,none⟩),.func (.func 252) #[] #[.pointer (some ⟨w5.heap.size,0,none⟩),.pointer (some ⟨W.heap.size,0,none⟩),.pointer (some ⟨W.heap.size+1,0,none⟩)]] w6 (cE B FB p c ns mm aB (aJ FB mm aB v0 v1 (.slice a23 Xt Xu) (.slice a31 Xv Xw) v4) w6 bl nm (sr (aA ns k (ns[n].kids.getD (ns[n].kids.length - 1) 0) s.funcs.length false (cg ns s.funcs.length [] (ns[n].kids.take (ns[n].kids.length - 2)) (dV s n up))) (dV s n up)))):=hid (by
   intro w6 hw6;have KB:aK B w5 w6 (aJ FB mm aB v0 v1 (.slice a23 Xt Xu) (.slice a31 Xv Xw) v4) (aJ FB mm aB v0 v1 (.slice a23 Xt Xu) (.slice a31 Xv Xw) v4):=by rw [hw6];exact aK.fresh (au _ _) af
   have hF6:=Wd.out.1.later (w':=w6) (by rw [hw6];exact au _ _);have g1:=n7 Hi.out (n:Int) (up:Int);have anN:eu ns (dV s n up) (bl++[nm]):=⟨xE.out.seen,xE.out.text⟩;have anO:∀g,W.heap.size≤g→g<WX.heap.size→¬aJ FB mm aB v0 v1 (.slice a23 Xt Xu) (.slice a31 Xv Xw) v4 g:=fun g h1 h2=>Wd.out.2.not h2 (Bu.out g h1)
   have B3:mC w6 (aJ FB mm aB v0 v1 (.slice a23 Xt Xu) (.slice a31 Xv Xw) v4) W.heap.size 0 (.pointer (some ⟨FB,0,none⟩)):=mC.step ⟨asX,anO _ (Nat.le_refl _) af,d3⟩ KB;have B6:mC w6 (aJ FB mm aB v0 v1 (.slice a23 Xt Xu) (.slice a31 Xv Xw) v4) (W.heap.size+1) 0 (.int .i64 s.funcs.length):=mC.step ⟨hb6,anO _ af af,by simp [World.cell?,Hb6.out]⟩ KB;have B7:mC w6 (aJ FB mm aB v0 v1 (.slice a23 Xt Xu) (.slice a31 Xv Xw) v4) w5.heap.size 0 (.slice ns[n].kp ns[n].kids.length ns[n].aP):=⟨by rw [hw6];simp,fun hO=>by have:=(Wd.out.1.dr hO).2;omega,by rw [hw6];simp only [World.cell?,heap_alloc_new];rfl⟩;have ajw:Below B W0 w6:=asW.out.trans KB.below;have hK6:vN w6 (aJ FB mm aB v0 v1 (.slice a23 Xt Xu) (.slice a31 Xv Xw) v4) ns[n].kp ns[n].kids:=fun i xe=>by
    obtain⟨bk,ok,eO,lg,fN⟩:=bQ cH.out xe;refine⟨bk,ok,eO,⟨?_,fun hO=>by have:=(hF6.dr hO).1;omega, ?_⟩⟩
    ·have:=(ajw.mono h0).size;omega
    ·rw [((ajw.mono h0).cell (p:=⟨bk,_,none⟩) lg).trans fN];simp [List.getD,List.getElem?_eq_getElem xe]
   refine BC hF6 anN af 252 _ (fun w=>rfl) (fun W1 OW mb iZ nH=>?_);refine agF kj.out HN.out h0 k n hn kU je.out ns[n].kids kH.out Hk2.out s.funcs.length W1 (dV s n up) (bl++[nm]) (aB++[mb]) _ _ _ _ _ iZ g1.inv anN.push (ajw.trans nH.below) (by simp [dV]) ?_ ?_ ?_ He.out ns[n].kp ns[n].aP _ _ _ (HC.out ns[n] (List.getElem_mem hn)) (hK6.step nH) (B7.step nH) (B3.step nH) (B6.step nH)
   ·show s.vars.length+_≤_;have:=Fp.out;omega
   ·have:=Fp.out;simp [dV];omega
   ·have:=Fp.out;simp;omega)
  have jc:Hid (j9 ns (aA ns k) n up s=sr (aA ns k (ns[n].kids.getD (ns[n].kids.length - 1) 0) s.funcs.length false (cg ns s.funcs.length [] (ns[n].kids.take (ns[n].kids.length - 2)) (dV s n up))) (dV s n up)):=hid (by
   unfold j9;rw [bW];rfl)
  have asY:Hid (aK B W w5 (aJ FB mm aB v0 v1 v2 v3 v4) (aJ FB mm aB v0 v1 (.slice a23 Xt Xu) (.slice a31 Xv Xw) v4)):=hid ((aK.fresh anL.out Au).trans hdone.2);clear kg KG af4 asV hdone b3 b6 ajv hp ct aG L8 bW F8 fS hk2 IH ht hd hs aT bp hall;generalize ns[n]=x at*;go_wp2_with (go_at_call 217;refine(anM.out _ rfl).mono ?_);intro e w9 hE;have nU:cE B FB p c ns mm aB (aJ FB mm aB v0 v1 v2 v3 v4) W bl nm (j9 ns (aA ns k) n up s) e w9:=by
   rw [jc.out];exact cE.trans (ext:=[]) (asY.out.trans (aK.fresh (O:=aJ FB mm aB v0 v1 (.slice a23 Xt Xu) (.slice a31 Xv Xw) v4) (au _ _) af)) rE
  by_cases h1:(j9 ns (aA ns k) n up s).e=0
  ·obtain rfl:=(nU.1 h1).1;exact Qi
  ·obtain rfl:=(nU.2 h1).1;exact⟨rfl,nU⟩
end Go.Proofs.YtjchnliaglecoaaGreatDoor

/- A part of the proof. Conditions: none. -/
set_option maxRecDepth 100000
set_option maxHeartbeats 8000000
namespace Go.Proofs.YtjchnliaglecoaaGreatDoor
open Go Go.RowKit Go.Nodes Go.Maps Go.WideMaps Go.ChangeShapes
@[go_sem] theorem Xo {P : Program} (w : World) (n i : Nat) (fn : Fn) (x y : Array Value) (v : Value) (hc : w.cell? ⟨n, i, none⟩ = some v) (hf : w.frozen? ⟨n, i, none⟩ = false) : (store ⟨n, i, none⟩ (.func fn x y)).run P w = .ok () (w.setCell ⟨n, i, none⟩ (.func fn x y)) := by
 rw [run_store P w _ _ _ rfl,hc];simp [hf]
def cI (W:World) (FB fn:Nat) (loop:Bool) (x:Nd):World:=
 ((((W.alloc (.cells #[.pointer (some ⟨FB,0,none⟩)] 185)).alloc (.cells #[.int .i64 fn] 3)).alloc (.cells #[.bool loop] 4)).alloc (.cells #[.int .i64 x.kind,.string x.text,.slice x.kp x.kids.length x.aP,.int .i64 x.place] 56)).alloc (.cells #[.func (.func 214) #[] #[.pointer (some ⟨W.heap.size,0,none⟩),.pointer (some ⟨W.heap.size+1,0,none⟩),.pointer (some ⟨W.heap.size+2,0,none⟩)]] 210)
structure Cf (FB fn:Nat) (loop:Bool) (x:Nd) (O:Nat→Prop) (H:Nat) (X:World):Prop where
 b4:mC X O H 0 (.pointer (some ⟨FB,0,none⟩))
 b6:mC X O (H+1) 0 (.int .i64 fn)
 b7:mC X O (H+2) 0 (.bool loop)
 b80:mC X O (H+3) 0 (.int .i64 x.kind)
 b8:mC X O (H+3) 2 (.slice x.kp x.kids.length x.aP)
 b9:mC X O (H+4) 0 (.func (.func 214) #[] #[.pointer (some ⟨H,0,none⟩),.pointer (some ⟨H+1,0,none⟩),.pointer (some ⟨H+2,0,none⟩)])
theorem Cf.step {B FB fn H:Nat} {loop:Bool} {x:Nd} {O O':Nat→Prop} {X X':World} (h:Cf FB fn loop x O H X) (hs:aK B X X' O O'):Cf FB fn loop x O' H X':=⟨h.b4.step hs,h.b6.step hs,h.b7.step hs,h.b80.step hs,h.b8.step hs,h.b9.step hs⟩
theorem cV (W:World) (FB fn:Nat) (loop:Bool) (x:Nd):Below W.heap.size W (cI W FB fn loop x):=by
 unfold cI
 repeat (first|exact Below.refl _ _|refine bA ?_ _)
theorem iP {W:World} {O:Nat→Prop} (hO:∀g,O g→g<W.heap.size) (FB fn:Nat) (loop:Bool) (x:Nd):Cf FB fn loop x O W.heap.size (cI W FB fn loop x):=by
 have no:∀k,¬O (W.heap.size+k):=fun k h=>by have:=hO _ h;omega
 have no0:¬O W.heap.size:=fun h=>by have:=hO _ h;omega
 refine⟨⟨?_,no0, ?_⟩,⟨?_,no 1, ?_⟩,⟨?_,no 2, ?_⟩,⟨?_,no 3, ?_⟩,⟨?_,no 3, ?_⟩,⟨?_,no 4, ?_⟩⟩
 all_goals (unfold cI;first|(simp;done)|(simp [go_sem];done))
theorem iQ {W0 X:World} {B:Nat} {O:Nat→Prop} {x:Nd} (hf:x.fine W0) (hb:Below B W0 X) (h0:W0.heap.size≤B) (hO:∀g,O g→B≤g):vN X O x.kp x.kids:=fun i hi=>by
 obtain⟨bk,ok,eO,bO,fN⟩:=bQ hf hi;refine⟨bk,ok,eO,⟨?_,fun h=>by have:=hO _ h;omega, ?_⟩⟩
 ·have:=(hb.mono h0).size;omega
 ·rw [((hb.mono h0).cell (p:=⟨bk,_,none⟩) bO).trans fN];simp [List.getD,List.getElem?_eq_getElem hi]
theorem eu.same {ns:List Nd} {s s':Fs} {fY:List ey} (h:eu ns s fY) (h1:s'.seen=s.seen) (h2:∀v,fP s' v=fP s v):eu ns s' fY:=⟨by rw [h1];exact h.seen,fun x hx=>by rw [h2];exact h.text x hx⟩
theorem Gl (s:Fs) (n v fn:Int) (set:Bool) (u:Int):fP (bT s n v fn set) u=fP s u:=by
 unfold fP bT;simp only [List.getElem?_modify];cases s.vars[u.toNat]? with
 |none=>simp
 |some x=>simp;split<;>rfl
theorem eu.take {ns:List Nd} {s:Fs} {fY:List ey} (h:eu ns s fY) (n v fn:Int) (set:Bool):eu ns (bT s n v fn set) fY:=h.same rfl (Gl s n v fn set)
theorem cE.ends {B FB mm:Nat} {p:Option Addr} {c:Nat} {ns:List Nd} {O:Nat→Prop} {W w':World} {bl:List ey} {nm:ey} {aB:List Nat} {s1:Fs} {e:Ending} (h:cE B FB p c ns mm aB O W bl nm s1 e w'):(e=.returned (.tuple #[])∧s1.e=0)∨(e=.panicked (kG s1.bE s1.e)∧s1.e≠0):=by
 by_cases h1:s1.e=0
 ·exact .inl ⟨(h.1 h1).1,h1⟩
 ·exact .inr ⟨(h.2 h1).1,h1⟩
section
variable {B FB mm:Nat} {p:Option Addr} {c:Nat} {ns:List Nd} {W0:World}
theorem qK (ht:Tree ns) (k n:Nat) (hn:n≤ns.length) (kU:n≤k) (IH:∀q,q<n→jG B FB mm p c ns W0 k q) (z:Nat) (hz:z<n) (fn:Nat) (loop:Bool) (W:World) (s:Fs) (bl:List ey) (nm:ey) (aB:List Nat) (v0 v1 v2 v3 v4:Value)
  (hF:bF B FB p c ns.length mm s.vars.length W s (bl++[nm]) aB v0 v1 v2 v3 v4) (hi:cN ns.length s) (fy:eu ns s (bl++[nm])) (hb0:Below B W0 W) (hfn:fn<s.funcs.length) (hsz:s.vars.length+wt ns z≤100000) (lK:s.funcs.length+wt ns z≤100000) (hbl:bl.length+wt ns z≤100000) (he:s.e=0)
  (x:Nd) (H:Nat) (hX:Cf FB fn loop x (aJ FB mm aB v0 v1 v2 v3 v4) H W) (w1:World) (U:Nat) (hb:Below W.heap.size W w1) (hU:w1.heap[U]?=some (.cells #[.int .i64 z] 3 (0,0))) (hUW:W.heap.size≤U):
  Calls Tryz.prog 214 #[.slice (some ⟨U,0,none⟩) 1 1,.pointer (some ⟨H,0,none⟩),.pointer (some ⟨H+1,0,none⟩),.pointer (some ⟨H+2,0,none⟩)] w1 (cE B FB p c ns mm aB (aJ FB mm aB v0 v1 v2 v3 v4) W bl nm (aA ns k z fn loop s)):=by
 have Au:B≤W.heap.size:=by have:=hF.lt;have:=hF.ge;omega
 have hs:aK B W w1 (aJ FB mm aB v0 v1 v2 v3 v4) (aJ FB mm aB v0 v1 v2 v3 v4):=aK.fresh hb Au;have pJ:=hX.step hs;have hw:fV ns [(z:Int)]=wt ns z:=by simp [fV]
 have:=CK ht k n hn kU IH [(z:Int)] (fun q hq=>by simp at hq;subst hq;omega) fn loop w1 s bl nm aB v0 v1 v2 v3 v4 (hF.later hb) hi fy (hb0.trans hs.below) hfn (by rw [hw];exact hsz) (by rw [hw];exact lK) (by rw [hw];exact hbl) he (some ⟨U,0,none⟩) 1 H (H+1) (H+2) (fun i hi=>by
  have h0:i=0:=by simp at hi;exact hi
  subst h0;exact⟨U,0,rfl,⟨(Array.getElem?_eq_some_iff.1 hU).1,fun hO=>by have:=(hF.dr hO).2;omega,by simp [World.cell?,hU]⟩⟩) pJ.b4 pJ.b6 pJ.b7
 refine this.mono fun e w' hE=>?_
 exact cE.trans (ext:=[]) hs rE
theorem Tc (ht:Tree ns) (k n:Nat) (hn:n≤ns.length) (kU:n≤k) (IH:∀q,q<n→jG B FB mm p c ns W0 k q) (fn:Nat) (loop:Bool) (W:World) (s:Fs) (bl:List ey) (nm:ey) (aB:List Nat) (v0 v1 v2 v3 v4:Value)
  (hF:bF B FB p c ns.length mm s.vars.length W s (bl++[nm]) aB v0 v1 v2 v3 v4) (hi:cN ns.length s) (fy:eu ns s (bl++[nm])) (hb0:Below B W0 W) (hfn:fn<s.funcs.length) (x:Nd) (cO:∀q∈x.kids,0≤q∧q<(n:Int)) (hsz:s.vars.length+fV ns x.kids≤100000) (lK:s.funcs.length+fV ns x.kids≤100000) (hbl:bl.length+fV ns x.kids≤100000) (he:s.e=0)
  (H:Nat) (hX:Cf FB fn loop x (aJ FB mm aB v0 v1 v2 v3 v4) H W) (hK:vN W (aJ FB mm aB v0 v1 v2 v3 v4) x.kp x.kids):
  Calls Tryz.prog 218 #[.pointer (some ⟨H+4,0,none⟩),.pointer (some ⟨H+3,0,none⟩)] W (cE B FB p c ns mm aB (aJ FB mm aB v0 v1 v2 v3 v4) W bl nm (x.kids.foldl (fun s q=>aA ns k q fn loop s) s)):=by
 have HC:=hid (CK ht k n hn kU IH x.kids cO fn loop W s bl nm aB v0 v1 v2 v3 v4 hF hi fy hb0 hfn hsz lK hbl he x.kp x.aP H (H+1) (H+2) hK hX.b4 hX.b6 hX.b7);have e9:=hX.b9.cell;have e8:=hX.b8.cell;clear hF hi fy hb0 cO IH ht hX hK;go_enter Tryz.func218,Tryz.ntmps218;go_wp2_with (go_at_call 214;refine HC.out.mono ?_);intro e w9 hE;rcases hE.ends with⟨rfl,_⟩|⟨rfl,_⟩
 ·have HE:=hid hE;clear hE;go_wp2;go_end0;exact HE.out
 ·exact⟨rfl,hE⟩
theorem Td (ht:Tree ns) (hN:ay W0 p ns) (bz:∀x∈ns,x.kids.length≤x.aP) (h0:W0.heap.size≤B) (k n:Nat) (kU:n≤k) (hn:n<ns.length) (IH:∀q,q<n→jG B FB mm p c ns W0 k q) (az:aq ns (n:Int)=17) (fn:Nat) (loop:Bool) (W:World) (s:Fs) (bl:List ey) (nm:ey) (aB:List Nat) (v0 v1 v2 v3 v4:Value)
  (hF:bF B FB p c ns.length mm s.vars.length W s (bl++[nm]) aB v0 v1 v2 v3 v4) (hi:cN ns.length s) (fy:eu ns s (bl++[nm])) (hb0:Below B W0 W) (hfn:fn<s.funcs.length) (hsz:s.vars.length+wt ns n≤100000) (lK:s.funcs.length+wt ns n≤100000) (hbl:bl.length+wt ns n≤100000) (he:s.e=0):
  Calls Tryz.prog 172 #[.pointer (some ⟨FB,0,none⟩),.int .i64 n,.int .i64 fn,.bool loop] W (cE B FB p c ns mm aB (aJ FB mm aB v0 v1 v2 v3 v4) W bl nm (aA ns (k+1) n fn loop s)):=by
 have hres:aA ns (k+1) n fn loop s=jq ns s n fn false:=by
  rw [dM,if_neg ni];rw [if_pos az]
 rw [hres];clear hres;obtain⟨b,o,hp,bO,ct,aG,q0,q1,q2,q3⟩:=bh hN hn;have aX:=hb0.mono h0;have k0:=(aX.cell (p:=⟨b,_,none⟩) bO).trans q0;have k1:=(aX.cell (p:=⟨b,_,none⟩) bO).trans q1;have k2:=(aX.cell (p:=⟨b,_,none⟩) bO).trans q2;have k3:=(aX.cell (p:=⟨b,_,none⟩) bO).trans q3;have c0:W.cell? ⟨FB,0,none⟩=some (.slice (some ⟨b,o,none⟩) ns.length c):=iG;have sg:=hF.lt;have fR:=hF.ge;have Au:B≤W.heap.size:=af;have Gm:b<W.heap.size:=uj;have n0:(0:Int)≤(n:Int):=af;have n1:(n:Int)<(ns.length:Int):=af;have cD:=aL ct;have bW:ax ns (n:Int)=ns[n].kids:=iA;have fS:=cM ht n;have cO:=bH ht (n:=(n:Int)) af;rw [bW] at fS cO;have qV:∀g,aJ FB mm aB v0 v1 v2 v3 v4 g→g<W.heap.size:=fun g h=>(hF.dr h).2
 have vB:∀g,aJ FB mm aB v0 v1 v2 v3 v4 g→B≤g:=fun g h=>(hF.dr h).1
 have HX:=hid (iP qV FB fn loop ns[n]);have nE:=hid (cV W FB fn loop ns[n]);have qL:Hid (aK B W (cI W FB fn loop ns[n]) (aJ FB mm aB v0 v1 v2 v3 v4) (aJ FB mm aB v0 v1 v2 v3 v4)):=hid (aK.fresh nE.out Au);have xM:=hid (hF.later nE.out);have qM:=hid (hb0.trans qL.out.below);have EF:=hid (iQ aG qM.out h0 vB);have pz:=hid cD;have kH:=hid bW;have cH:=hid aG;have HN:=hid hN;have mD:=hid hb0;have kI:=hid bz;have Hi:=hid hi;have xE:=hid fy;have kj:=hid ht;have je:=hid IH;have lN:=hid cO;have Fp:=hid fS;have He:=hid he;have Qo:1≤wt ns n:=fQ ht.ahead n;have hlk:=LY fy n fn false;have OZ:=hid hlk;clear hlk;clear q0 q1 q2 q3 aX hF ct cD bW aG hN hb0 bz hi fy ht IH cO fS he qV vB hp;rw [pz.out] at az;cases hf:cr (bl++[nm]).flatten (dS ns n) with
 |none=>
  have hs1:jq ns s n fn false=bB s n 110:=by rw [OZ.out,hf]
  have hs2:=k8 He.out (n:Int) 110;rw [←hs1] at hs2;have Hs2:=hid hs2;have HC:=hid (wH xM.out Hi.out HN.out h0 qM.out n fn hn bt hf);clear hs1 hs2 hf;generalize ns[n]=x at*;obtain⟨xk,xt,xp,xc,dx,eY⟩:=x;simp only at az k0 k1 k2 k3;subst az;go_enter Tryz.func172,Tryz.ntmps172;go_wp2_with (go_at_call 215;refine(HC.out).mono ?_);rintro e w9 rfl hst;exact⟨rfl,cE.fails (a:=(n:Int)) (ee:=110) aj Hs2.out.1 Hs2.out.2 rfl (qL.out.trans hst).weak⟩
 |some v=>
  have xA:=DU Hi.out xE.out hf;obtain⟨vv,rfl⟩:∃vv:Nat,v=vv:=⟨v.toNat,by omega⟩;have hs1:jq ns s n fn false=bT s n vv fn false:=by rw [OZ.out,hf]
  have HC:=hid (wI xM.out Hi.out xE.out HN.out h0 qM.out n fn hn bt af vv hf);have Hs1:=hid hs1;clear hs1 hf xA;generalize ns[n]=x at*;obtain⟨xk,xt,xp,xc,dx,eY⟩:=x;simp only at az k0 k1 k2 k3;subst az;go_enter Tryz.func172,Tryz.ntmps172;go_wp2_with (go_at_call 215;refine(HC.out).mono ?_);rintro e w9 gv cp _ _ rfl xY hst;have HE:=hid (show cE B FB p c ns mm aB (aJ FB mm aB v0 v1 v2 v3 v4) W bl nm (jq ns s n fn false) (.returned (.tuple #[])) w9 from by
   rw [Hs1.out];have e:(bT s n vv fn false).vars.length=s.vars.length:=by simp [bT]
   rw [←e] at xY;exact⟨fun _=>⟨rfl,[],v0,v1,v2,v3,v4,trivial,by rw [List.append_nil];exact⟨xY,xE.out.take _ _ _ _,qL.out.trans hst⟩⟩,fun h=>absurd He.out h⟩)
  clear xY hst;go_wp2;go_end0;exact HE.out
theorem Te (ht:Tree ns) (hN:ay W0 p ns) (bz:∀x∈ns,x.kids.length≤x.aP) (h0:W0.heap.size≤B) (k n:Nat) (kU:n≤k) (hn:n<ns.length) (IH:∀q,q<n→jG B FB mm p c ns W0 k q) (az:aq ns (n:Int)=11) (fn:Nat) (loop:Bool) (W:World) (s:Fs) (bl:List ey) (nm:ey) (aB:List Nat) (v0 v1 v2 v3 v4:Value)
  (hF:bF B FB p c ns.length mm s.vars.length W s (bl++[nm]) aB v0 v1 v2 v3 v4) (hi:cN ns.length s) (fy:eu ns s (bl++[nm])) (hb0:Below B W0 W) (hfn:fn<s.funcs.length) (hsz:s.vars.length+wt ns n≤100000) (lK:s.funcs.length+wt ns n≤100000) (hbl:bl.length+wt ns n≤100000) (he:s.e=0):
  Calls Tryz.prog 172 #[.pointer (some ⟨FB,0,none⟩),.int .i64 n,.int .i64 fn,.bool loop] W (cE B FB p c ns mm aB (aJ FB mm aB v0 v1 v2 v3 v4) W bl nm (aA ns (k+1) n fn loop s)):=by
 have hres:aA ns (k+1) n fn loop s=(if loop then s else bB s n 111):=by
  exact Qs
 rw [hres];clear hres;obtain⟨b,o,hp,bO,ct,aG,q0,q1,q2,q3⟩:=bh hN hn;have aX:=hb0.mono h0;have k0:=(aX.cell (p:=⟨b,_,none⟩) bO).trans q0;have k1:=(aX.cell (p:=⟨b,_,none⟩) bO).trans q1;have k2:=(aX.cell (p:=⟨b,_,none⟩) bO).trans q2;have k3:=(aX.cell (p:=⟨b,_,none⟩) bO).trans q3;have c0:W.cell? ⟨FB,0,none⟩=some (.slice (some ⟨b,o,none⟩) ns.length c):=iG;have sg:=hF.lt;have fR:=hF.ge;have Au:B≤W.heap.size:=af;have Gm:b<W.heap.size:=uj;have n0:(0:Int)≤(n:Int):=af;have n1:(n:Int)<(ns.length:Int):=af;have cD:=aL ct;have bW:ax ns (n:Int)=ns[n].kids:=iA;have fS:=cM ht n;have cO:=bH ht (n:=(n:Int)) af;rw [bW] at fS cO;have qV:∀g,aJ FB mm aB v0 v1 v2 v3 v4 g→g<W.heap.size:=fun g h=>(hF.dr h).2
 have vB:∀g,aJ FB mm aB v0 v1 v2 v3 v4 g→B≤g:=fun g h=>(hF.dr h).1
 have HX:=hid (iP qV FB fn loop ns[n]);have nE:=hid (cV W FB fn loop ns[n]);have qL:Hid (aK B W (cI W FB fn loop ns[n]) (aJ FB mm aB v0 v1 v2 v3 v4) (aJ FB mm aB v0 v1 v2 v3 v4)):=hid (aK.fresh nE.out Au);have xM:=hid (hF.later nE.out);have qM:=hid (hb0.trans qL.out.below);have EF:=hid (iQ aG qM.out h0 vB);have pz:=hid cD;have kH:=hid bW;have cH:=hid aG;have HN:=hid hN;have mD:=hid hb0;have kI:=hid bz;have Hi:=hid hi;have xE:=hid fy;have kj:=hid ht;have je:=hid IH;have lN:=hid cO;have Fp:=hid fS;have He:=hid he;have Qo:1≤wt ns n:=fQ ht.ahead n;clear q0 q1 q2 q3 aX hF ct cD bW aG hN hb0 bz hi fy ht IH cO fS he qV vB hp;rw [pz.out] at az;have Gd:=hid (show ∀w9,aK B W w9 (aJ FB mm aB v0 v1 v2 v3 v4) (aJ FB mm aB v0 v1 v2 v3 v4)→bF B FB p c ns.length mm s.vars.length w9 s (bl++[nm]) aB v0 v1 v2 v3 v4→cE B FB p c ns mm aB (aJ FB mm aB v0 v1 v2 v3 v4) W bl nm s (.returned (.tuple #[])) w9 from fun w9 hs hf=>⟨fun _=>⟨rfl,[],v0,v1,v2,v3,v4,trivial,by rw [List.append_nil];exact⟨hf,xE.out,hs⟩⟩,fun h=>absurd He.out h⟩);generalize ns[n]=x at*;obtain⟨xk,xt,xp,xc,dx,eY⟩:=x;simp only at az k0 k1 k2 k3;subst az;cases loop with
 |true=>
  go_enter Tryz.func172,Tryz.ntmps172;go_wp2_with (go_at_call 216;(with_reducible refine(jK _ _ _ _).mono ?_);rintro e w' ⟨rfl,rfl⟩);go_end0;exact Gd.out _ qL.out xM.out
 |false=>
  have hs2:=k8 He.out (n:Int) 111;have Hs2:=hid hs2;clear hs2;go_enter Tryz.func172,Tryz.ntmps172;go_wp2_with (go_at_call 216;(with_reducible refine(lp _ _ _ _).mono ?_);rintro e w' ⟨rfl,rfl⟩);exact⟨rfl,cE.fails (a:=(n:Int)) (ee:=111) aj Hs2.out.1 Hs2.out.2 rfl qL.out.weak⟩
theorem Tf (ht:Tree ns) (hN:ay W0 p ns) (bz:∀x∈ns,x.kids.length≤x.aP) (h0:W0.heap.size≤B) (k n:Nat) (kU:n≤k) (hn:n<ns.length) (IH:∀q,q<n→jG B FB mm p c ns W0 k q) (az:aq ns (n:Int)=22) (fn:Nat) (loop:Bool) (W:World) (s:Fs) (bl:List ey) (nm:ey) (aB:List Nat) (v0 v1 v2 v3 v4:Value)
  (hF:bF B FB p c ns.length mm s.vars.length W s (bl++[nm]) aB v0 v1 v2 v3 v4) (hi:cN ns.length s) (fy:eu ns s (bl++[nm])) (hb0:Below B W0 W) (hfn:fn<s.funcs.length) (hsz:s.vars.length+wt ns n≤100000) (lK:s.funcs.length+wt ns n≤100000) (hbl:bl.length+wt ns n≤100000) (he:s.e=0):
  Calls Tryz.prog 172 #[.pointer (some ⟨FB,0,none⟩),.int .i64 n,.int .i64 fn,.bool loop] W (cE B FB p c ns mm aB (aJ FB mm aB v0 v1 v2 v3 v4) W bl nm (aA ns (k+1) n fn loop s)):=by
 have hres:aA ns (k+1) n fn loop s=j9 ns (aA ns k) n fn s:=by
  exact Qq
 rw [hres];clear hres;obtain⟨b,o,hp,bO,ct,aG,q0,q1,q2,q3⟩:=bh hN hn;have aX:=hb0.mono h0;have k0:=(aX.cell (p:=⟨b,_,none⟩) bO).trans q0;have k1:=(aX.cell (p:=⟨b,_,none⟩) bO).trans q1;have k2:=(aX.cell (p:=⟨b,_,none⟩) bO).trans q2;have k3:=(aX.cell (p:=⟨b,_,none⟩) bO).trans q3;have c0:W.cell? ⟨FB,0,none⟩=some (.slice (some ⟨b,o,none⟩) ns.length c):=iG;have sg:=hF.lt;have fR:=hF.ge;have Au:B≤W.heap.size:=af;have Gm:b<W.heap.size:=uj;have n0:(0:Int)≤(n:Int):=af;have n1:(n:Int)<(ns.length:Int):=af;have cD:=aL ct;have bW:ax ns (n:Int)=ns[n].kids:=iA;have fS:=cM ht n;have cO:=bH ht (n:=(n:Int)) af;rw [bW] at fS cO;have qV:∀g,aJ FB mm aB v0 v1 v2 v3 v4 g→g<W.heap.size:=fun g h=>(hF.dr h).2
 have vB:∀g,aJ FB mm aB v0 v1 v2 v3 v4 g→B≤g:=fun g h=>(hF.dr h).1
 have HX:=hid (iP qV FB fn loop ns[n]);have nE:=hid (cV W FB fn loop ns[n]);have qL:Hid (aK B W (cI W FB fn loop ns[n]) (aJ FB mm aB v0 v1 v2 v3 v4) (aJ FB mm aB v0 v1 v2 v3 v4)):=hid (aK.fresh nE.out Au);have xM:=hid (hF.later nE.out);have qM:=hid (hb0.trans qL.out.below);have EF:=hid (iQ aG qM.out h0 vB);have pz:=hid cD;have kH:=hid bW;have cH:=hid aG;have HN:=hid hN;have mD:=hid hb0;have kI:=hid bz;have Hi:=hid hi;have xE:=hid fy;have kj:=hid ht;have je:=hid IH;have lN:=hid cO;have Fp:=hid fS;have He:=hid he;have Qo:1≤wt ns n:=fQ ht.ahead n;have hk2:=eC ht hn az ak;have HC:=hid (Gn ht hN bz h0 k n hn kU hk2 IH fn (cI W FB fn loop ns[n]) s bl nm aB v0 v1 v2 v3 v4 xM.out hi fy qM.out hsz lK hbl he);clear hk2;clear q0 q1 q2 q3 aX hF ct cD bW aG hN hb0 bz hi fy ht IH cO fS he qV vB hp;rw [pz.out] at az;generalize ns[n]=x at*;obtain⟨xk,xt,xp,xc,dx,eY⟩:=x;simp only at az k0 k1 k2 k3;subst az;go_enter Tryz.func172,Tryz.ntmps172;go_wp2_with (go_at_call 219;refine(HC.out).mono ?_);intro e w9 hE;have nU:cE B FB p c ns mm aB (aJ FB mm aB v0 v1 v2 v3 v4) W bl nm (j9 ns (aA ns k) n fn s) e w9:=cE.trans (ext:=[]) qL.out rE;exact DV
theorem ZI (ht:Tree ns) (hN:ay W0 p ns) (bz:∀x∈ns,x.kids.length≤x.aP) (h0:W0.heap.size≤B) (k n:Nat) (kU:n≤k) (hn:n<ns.length) (IH:∀q,q<n→jG B FB mm p c ns W0 k q) (az:aq ns (n:Int)=3) (fn:Nat) (loop:Bool) (W:World) (s:Fs) (bl:List ey) (nm:ey) (aB:List Nat) (v0 v1 v2 v3 v4:Value)
  (hF:bF B FB p c ns.length mm s.vars.length W s (bl++[nm]) aB v0 v1 v2 v3 v4) (hi:cN ns.length s) (fy:eu ns s (bl++[nm])) (hb0:Below B W0 W) (hfn:fn<s.funcs.length) (hsz:s.vars.length+wt ns n≤100000) (lK:s.funcs.length+wt ns n≤100000) (hbl:bl.length+wt ns n≤100000) (he:s.e=0):
  Calls Tryz.prog 172 #[.pointer (some ⟨FB,0,none⟩),.int .i64 n,.int .i64 fn,.bool loop] W (cE B FB p c ns mm aB (aJ FB mm aB v0 v1 v2 v3 v4) W bl nm (aA ns (k+1) n fn loop s)):=by
 have ZJ:=trivial;exact amq
theorem J5 (ht:Tree ns) (hN:ay W0 p ns) (bz:∀x∈ns,x.kids.length≤x.aP) (h0:W0.heap.size≤B) (k n:Nat) (kU:n≤k) (hn:n<ns.length) (IH:∀q,q<n→jG B FB mm p c ns W0 k q) (az:aq ns (n:Int)≠17∧aq ns (n:Int)≠11∧aq ns (n:Int)≠22∧aq ns (n:Int)≠4∧aq ns (n:Int)≠5∧aq ns (n:Int)≠6∧aq ns (n:Int)≠9∧aq ns (n:Int)≠3) (fn:Nat) (loop:Bool) (W:World) (s:Fs) (bl:List ey) (nm:ey) (aB:List Nat) (v0 v1 v2 v3 v4:Value)
  (hF:bF B FB p c ns.length mm s.vars.length W s (bl++[nm]) aB v0 v1 v2 v3 v4) (hi:cN ns.length s) (fy:eu ns s (bl++[nm])) (hb0:Below B W0 W) (hfn:fn<s.funcs.length) (hsz:s.vars.length+wt ns n≤100000) (lK:s.funcs.length+wt ns n≤100000) (hbl:bl.length+wt ns n≤100000) (he:s.e=0):
  Calls Tryz.prog 172 #[.pointer (some ⟨FB,0,none⟩),.int .i64 n,.int .i64 fn,.bool loop] W (cE B FB p c ns mm aB (aJ FB mm aB v0 v1 v2 v3 v4) W bl nm (aA ns (k+1) n fn loop s)):=by
 obtain⟨m1,m2,m3,m4,m5,m6,m7,m8⟩:=az;have hres:aA ns (k+1) n fn loop s=(ax ns (n:Int)).foldl (fun s q=>aA ns k q fn loop s) s:=by
  rw [dM,if_neg ni,if_neg m1,if_neg m2,if_neg m3,if_neg m4,if_neg m5,if_neg m6,if_neg m7,if_neg m8]
 rw [hres];clear hres;obtain⟨b,o,hp,bO,ct,aG,q0,q1,q2,q3⟩:=bh hN hn;have aX:=hb0.mono h0;have k0:=(aX.cell (p:=⟨b,_,none⟩) bO).trans q0;have k1:=(aX.cell (p:=⟨b,_,none⟩) bO).trans q1;have k2:=(aX.cell (p:=⟨b,_,none⟩) bO).trans q2;have k3:=(aX.cell (p:=⟨b,_,none⟩) bO).trans q3;have c0:W.cell? ⟨FB,0,none⟩=some (.slice (some ⟨b,o,none⟩) ns.length c):=iG;have sg:=hF.lt;have fR:=hF.ge;have Au:B≤W.heap.size:=af;have Gm:b<W.heap.size:=uj;have n0:(0:Int)≤(n:Int):=af;have n1:(n:Int)<(ns.length:Int):=af;have cD:=aL ct;have bW:ax ns (n:Int)=ns[n].kids:=iA;have fS:=cM ht n;have cO:=bH ht (n:=(n:Int)) af;rw [bW] at fS cO;have qV:∀g,aJ FB mm aB v0 v1 v2 v3 v4 g→g<W.heap.size:=fun g h=>(hF.dr h).2
 have vB:∀g,aJ FB mm aB v0 v1 v2 v3 v4 g→B≤g:=fun g h=>(hF.dr h).1
 have HX:=hid (iP qV FB fn loop ns[n]);have nE:=hid (cV W FB fn loop ns[n]);have qL:Hid (aK B W (cI W FB fn loop ns[n]) (aJ FB mm aB v0 v1 v2 v3 v4) (aJ FB mm aB v0 v1 v2 v3 v4)):=hid (aK.fresh nE.out Au);have xM:=hid (hF.later nE.out);have qM:=hid (hb0.trans qL.out.below);have EF:=hid (iQ aG qM.out h0 vB);have pz:=hid cD;have kH:=hid bW;have cH:=hid aG;have HN:=hid hN;have mD:=hid hb0;have kI:=hid bz;have Hi:=hid hi;have xE:=hid fy;have kj:=hid ht;have je:=hid IH;have lN:=hid cO;have Fp:=hid fS;have He:=hid he;have Qo:1≤wt ns n:=fQ ht.ahead n;rw [bW];rw [cD] at m1 m2 m3 m4 m5 m6 m7 m8;have HC:=hid (CK ht k n af kU IH ns[n].kids cO fn loop (cI W FB fn loop ns[n]) s bl nm aB v0 v1 v2 v3 v4 xM.out hi fy qM.out hfn af af af he ns[n].kp ns[n].aP W.heap.size (W.heap.size+1) (W.heap.size+2) EF.out HX.out.b4 HX.out.b6 HX.out.b7);clear q0 q1 q2 q3 aX hF ct cD bW aG hN hb0 bz hi fy ht IH cO fS he qV vB hp;generalize ns[n]=x at*;obtain⟨xk,xt,xp,xc,dx,eY⟩:=x;simp only at k0 k1 k2 k3 m1 m2 m3 m4 m5 m6 m7 m8;go_enter Tryz.func172,Tryz.ntmps172;go_wp2_with (go_at_call 214;refine(HC.out).mono ?_);intro e w9 hE;have nU:cE B FB p c ns mm aB (aJ FB mm aB v0 v1 v2 v3 v4) W bl nm (dx.foldl (fun s q=>aA ns k q fn loop s) s) e w9:=cE.trans (ext:=[]) qL.out rE;exact DV
end
end Go.Proofs.YtjchnliaglecoaaGreatDoor

/- A part of the proof. Conditions: none. -/
set_option maxRecDepth 100000
set_option maxHeartbeats 8000000
namespace Go.Proofs.YtjchnliaglecoaaGreatDoor
open Go Go.RowKit Go.Nodes Go.Maps Go.WideMaps Go.ChangeShapes
def KO (FE KS:Value) (B8 bk ok zz NB:Nat):Nat→World→Value→Prop
 |0,w,v=>v=FE
 |1,w,v=>v=.pointer (some ⟨B8,2,none⟩)
 |2,w,v=>v=KS
 |3,w,v=>v=.pointer (some ⟨bk,ok,none⟩)
 |4,w,v=>v=.int .i64 zz
 |_,w,v=>∃U:Nat,v=.slice (some ⟨U,0,none⟩) 1 1∧w.heap[U]?=some (.cells #[.int .i64 zz] 3 (0,0))∧NB≤U
theorem oC {FE KS:Value} {B8 bk ok zz NB:Nat}:∀(k:Nat) (w w':World) (v:Value),Below w.heap.size w w'→KO FE KS B8 bk ok zz NB k w v→KO FE KS B8 bk ok zz NB k w' v:=by
 intro k w w' v hb h;unfold KO at*;split at h<;>first|exact h|exact(fun⟨U,e,hh,hB⟩=>⟨U,e,zv hb hh,hB⟩) h
theorem Wi {f:List UInt8} {ks:List Nat} (h:fJ f ks=true) (hd:f≠[46]) (hc:f.count 42=0):ks.length=f.length:=by
 unfold fJ at h;rw [if_neg hd,hc] at h;split at h
 ·cases h
 ·split at h
  ·cases h
  ·omega
theorem Wj {ns:List Nd} (ht:Tree ns) {n:Nat} (hn:n<ns.length) (hk:aq ns (n:Int)=6):(ax ns (n:Int)).length=2:=by
 obtain⟨x,hx,h1,h2,hv⟩:=ic ht hn;have hf:=hv.fits;have hl:(cR ns x.kids).length=x.kids.length:=by simp [cR]
 rw [h2,←hl];rw [h1] at hk;rw [hk] at hf;exact Wi hf aj aj
theorem KP {s:Fs} {n v:Nat} {fn:Int} (hv:v<(bT s n v fn false).vars.length):(bT s n v fn true).vars=(bT s n v fn false).vars.set v {(bT s n v fn false).vars[v] with set:=true}:=by
 have hv2:v<s.vars.length:=by simpa [bT] using hv
 unfold bT;simp only [Int.toNat_natCast];rw [sR _ _ hv2];apply List.ext_getElem
 ·simp
 ·intro i h1 h2;simp only [List.getElem_set,List.getElem_modify];by_cases e:v=i
  ·subst e;simp
  ·simp [e]
theorem BG.any {E:ey→Prop} {B FB mm:Nat} {p:Option Addr} {c:Nat} {ns:List Nd} {O:Nat→Prop} {W w':World} {bl:List ey} {nm:ey} {aB:List Nat} {s1:Fs} {e:Ending} (h:BG E B FB p c ns mm aB O W bl nm s1 e w'):cE B FB p c ns mm aB O W bl nm s1 e w':=
 ⟨fun h1=>by obtain⟨a,x,y0,y1,y2,y3,y4,_,d⟩:=h.1 h1;exact⟨a,x,y0,y1,y2,y3,y4,trivial,d⟩,h.2⟩
section
variable {B FB mm:Nat} {p:Option Addr} {c:Nat} {ns:List Nd} {W0:World}
theorem acf (ht:Tree ns) (hN:ay W0 p ns) (bz:∀x∈ns,x.kids.length≤x.aP) (h0:W0.heap.size≤B) (k n:Nat) (kU:n≤k) (hn:n<ns.length) (IH:∀q,q<n→jG B FB mm p c ns W0 k q) (az:aq ns (n:Int)=4) (fn:Nat) (loop:Bool) (W:World) (s:Fs) (bl:List ey) (nm:ey) (aB:List Nat) (v0 v1 v2 v3 v4:Value)
  (hF:bF B FB p c ns.length mm s.vars.length W s (bl++[nm]) aB v0 v1 v2 v3 v4) (hi:cN ns.length s) (fy:eu ns s (bl++[nm])) (hb0:Below B W0 W) (hfn:fn<s.funcs.length) (hsz:s.vars.length+wt ns n≤100000) (lK:s.funcs.length+wt ns n≤100000) (hbl:bl.length+wt ns n≤100000) (he:s.e=0):
  Calls Tryz.prog 172 #[.pointer (some ⟨FB,0,none⟩),.int .i64 n,.int .i64 fn,.bool loop] W (cE B FB p c ns mm aB (aJ FB mm aB v0 v1 v2 v3 v4) W bl nm (aA ns (k+1) n fn loop s)):=by
 have hres:aA ns (k+1) n fn loop s=(if(aA ns k ((ax ns (n:Int)).getD 1 0) fn loop s).e=0 then cY ns (aA ns k ((ax ns (n:Int)).getD 1 0) fn loop s) n fn else aA ns k ((ax ns (n:Int)).getD 1 0) fn loop s):=by
  exact Qt
 rw [hres];clear hres;obtain⟨b,o,hp,bO,ct,aG,q0,q1,q2,q3⟩:=bh hN hn;have aX:=hb0.mono h0;have k0:=(aX.cell (p:=⟨b,_,none⟩) bO).trans q0;have k1:=(aX.cell (p:=⟨b,_,none⟩) bO).trans q1;have k2:=(aX.cell (p:=⟨b,_,none⟩) bO).trans q2;have k3:=(aX.cell (p:=⟨b,_,none⟩) bO).trans q3;have c0:W.cell? ⟨FB,0,none⟩=some (.slice (some ⟨b,o,none⟩) ns.length c):=iG;have sg:=hF.lt;have fR:=hF.ge;have Au:B≤W.heap.size:=af;have Gm:b<W.heap.size:=uj;have n0:(0:Int)≤(n:Int):=af;have n1:(n:Int)<(ns.length:Int):=af;have cD:=aL ct;have bW:ax ns (n:Int)=ns[n].kids:=iA;have fS:=cM ht n;have cO:=bH ht (n:=(n:Int)) af;rw [bW] at fS cO;have qV:∀g,aJ FB mm aB v0 v1 v2 v3 v4 g→g<W.heap.size:=fun g h=>(hF.dr h).2
 have vB:∀g,aJ FB mm aB v0 v1 v2 v3 v4 g→B≤g:=fun g h=>(hF.dr h).1
 have HX:=hid (iP qV FB fn loop ns[n]);have nE:=hid (cV W FB fn loop ns[n]);have qL:Hid (aK B W (cI W FB fn loop ns[n]) (aJ FB mm aB v0 v1 v2 v3 v4) (aJ FB mm aB v0 v1 v2 v3 v4)):=hid (aK.fresh nE.out Au);have xM:=hid (hF.later nE.out);have qM:=hid (hb0.trans qL.out.below);have EF:=hid (iQ aG qM.out h0 vB);have pz:=hid cD;have kH:=hid bW;have cH:=hid aG;have HN:=hid hN;have mD:=hid hb0;have kI:=hid bz;have Hi:=hid hi;have xE:=hid fy;have kj:=hid ht;have je:=hid IH;have lN:=hid cO;have Fp:=hid fS;have He:=hid he;have Qo:1≤wt ns n:=fQ ht.ahead n;have hk2:=eC ht hn az ak;rw [bW] at hk2;rw [bW];have fq:1<ns[n].kids.length:=af;obtain⟨AO,Nf,fX,xC⟩:=EF.out 1 fq;have ep:=cO ns[n].kids[1] (List.getElem_mem fq);obtain⟨z1,hz1⟩:∃z:Nat,ns[n].kids[1]=(z:Int):=⟨(ns[n].kids[1]).toNat,by omega⟩;rw [hz1] at ep xC;have iH:ns[n].kids.getD 1 0=(z1:Int):=Cq;have Gz:fV ns (ns[n].kids.take 1)+wt ns z1≤fV ns ns[n].kids:=Cr;rw [iH];have Wk:z1<n:=af;have HA:=hid (fun w1 U=>qK ht k n af kU IH z1 Wk fn loop (cI W FB fn loop ns[n]) s bl nm aB v0 v1 v2 v3 v4 xM.out hi fy qM.out hfn af af af he ns[n] W.heap.size HX.out w1 U);have Xx:=hid (eI ht k z1 (fn:Int) loop s af af hi);have oK:(1:Int)<(ns[n].kids.length:Int):=af;have D7:¬ns[n].kids=[]:=fun h=>by rw [h] at fq;simp at fq
 have as9:s.vars.length+wt ns z1≤100000:=af;have e8:=HX.out.b8.cell;have l8:=HX.out.b8.lt;have e9:=HX.out.b9.cell;have l9:=HX.out.b9.lt;have ek:=xC.cell;have lk:=xC.lt;rw [fX] at e8 k2;clear hk2 xC ep hz1 iH;clear q0 q1 q2 q3 aX hF ct cD bW aG hN hb0 bz hi fy ht IH cO fS he qV vB hp;rw [pz.out] at az;obtain⟨sA,Wl⟩:∃sA,sA=aA ns k (z1:Int) fn loop s:=⟨_,rfl⟩;rw [←Wl] at HA Xx ⊢;have HsA:=hid Wl;clear Wl;obtain⟨R,hR⟩:∃R,R=(if sA.e=0 then cY ns sA n fn else sA):=⟨_,rfl⟩;rw [←hR];have HR:=hid hR;clear hR;generalize ns[n]=x at*;obtain⟨xk,xt,xp,xc,dx,eY⟩:=x;simp only at az k0 k1 k2 k3 e8 e9 fX oK D7;subst az;subst fX;go_enter Tryz.func172,Tryz.ntmps172;go_wp2;change Code.wp _ _ _ _ (cI W FB fn loop ⟨4,xt,some ⟨AO,Nf,none⟩,xc,dx,eY⟩);generalize cI W FB fn loop ⟨4,xt,some ⟨AO,Nf,none⟩,xc,dx,eY⟩=wz at*;refine wp_region_any ai ?_;refine Am.cJ _ 6 rfl ai ?_;simp only [List.take_succ_cons,List.take_zero];refine Am.bM (Φ:=KO (.func (.func 214) #[] #[.pointer (some ⟨W.heap.size,0,none⟩),.pointer (some ⟨W.heap.size+1,0,none⟩),.pointer (some ⟨W.heap.size+1+1,0,none⟩)]) (.slice (some ⟨AO,Nf,none⟩) dx.length xc) (W.heap.size+1+1+1) AO (Nf+1) z1 wz.heap.size) (w0:=wz) ai ai oC ?_ ?_ _ ((Below.refl _ _).drew)
 ·intro kq o ca w1 ho hb ah K hK;have hcE:=(hb.cell (p:=⟨W.heap.size+1+1+1+1,0,none⟩) l9).trans e9;have hc8:=(hb.cell (p:=⟨W.heap.size+1+1+1,2,none⟩) l8).trans e8;have eA:=(hb.cell (p:=⟨AO,_,none⟩) lk).trans ek;have hBs:=hb.size;have hfn:∀f,ca.eval (.func f)=.func (.func f) #[] #[]:=fun _=>rfl
  have hcs:∀v,ca.eval (.const v)=v:=fun _=>rfl
  rcases kq with _|_|_|_|_|_|kq
  ·exact D3
  ·exact D4
  ·cases ho;have aQ:=Am.lk 50 1 ah fun _=>rfl
   exact D8
  ·cases ho;have aQ:=Am.lk 51 2 ah fun _=>rfl
   exact Kq
  ·cases ho;have aQ:=Am.lk 52 3 ah fun _=>rfl
   exact D9
  ·cases ho;have aQ:=Am.lk 53 4 ah fun _=>rfl
   exact ae1
  ·simp at ho
 ·intro ca w1 hb hd hs aT bp;have hFE:ca.tmps.getD 49 undef=.func (.func 214) #[] #[.pointer (some ⟨W.heap.size,0,none⟩),.pointer (some ⟨W.heap.size+1,0,none⟩),.pointer (some ⟨W.heap.size+1+1,0,none⟩)]:=aT 0 _ 49 rfl rfl;obtain⟨U,hs5,hU,hUW⟩:∃U:Nat,ca.tmps.getD 54 undef=.slice (some ⟨U,0,none⟩) 1 1∧w1.heap[U]?=some (.cells #[.int .i64 z1] 3 (0,0))∧wz.heap.size≤U:=aT 5 _ 54 rfl rfl;have bf:=Am.bC hd hs bp;simp only [List.foldl_cons,List.foldl_nil,hFE,hs5] at bf;obtain⟨yf,jL⟩:∃y:Nat→Value,∀t,ca.tmps.getD t undef=y t:=⟨_,fun _=>rfl⟩;simp only [jL] at bf;clear jL;subst bf;simp only [List.setIfInBounds_toArray,List.set_cons_succ,List.set_cons_zero];have HCA:=hid (HA.out w1 U hb hU hUW);clear hb hd hs aT bp hFE hs5 hU e8 e9 ek;simp only [Am.gI];go_wp2_with (go_at_call 214;refine(HCA.out).mono ?_);intro e w9 hE;by_cases h1:sA.e=0
  ·obtain⟨rfl,ext,u0,u1,u2,u3,u4,_,xY,Io,fD⟩:=hE.1 h1;have jX:R=cY ns sA n fn:=by rw [HR.out,if_pos h1]
   have pF:=hid jX;have MA:=HX.out.step fD;have d4:=MA.b4.cell;have d6:=MA.b6.cell;have hv4:=Xx.out.v1;have hf4:=Xx.out.f0;have HC2:=hid (Jn xY Xx.out.inv Io HN.out h0 (qM.out.trans fD.below) n fn hn af af af af h1);have Wm:=hid fD;clear hE xY Io fD MA jX;go_wp2_with (go_at_call 220;refine(HC2.out).mono ?_);intro e w8 hE;have nU:cE B FB p c ns mm aB (aJ FB mm aB v0 v1 v2 v3 v4) W bl nm R e w8:=by
    rw [pF.out];exact cE.trans (ext:=ext) (qL.out.trans Wm.out) hE.any
   rcases nU.ends with⟨rfl,_⟩|⟨rfl,_⟩
   ·have HE:=hid nU;clear hE nU;go_wp2;go_end0;exact HE.out
   ·exact⟨rfl,nU⟩
  ·obtain⟨rfl,fD⟩:=hE.2 h1;have jX:R=sA:=by rw [HR.out,if_neg h1]
   exact⟨rfl,by rw [jX];exact cE.trans (ext:=[]) qL.out rE⟩
theorem acg (ht:Tree ns) (hN:ay W0 p ns) (bz:∀x∈ns,x.kids.length≤x.aP) (h0:W0.heap.size≤B) (k n:Nat) (kU:n≤k) (hn:n<ns.length) (IH:∀q,q<n→jG B FB mm p c ns W0 k q) (az:aq ns (n:Int)=5) (fn:Nat) (loop:Bool) (W:World) (s:Fs) (bl:List ey) (nm:ey) (aB:List Nat) (v0 v1 v2 v3 v4:Value)
  (hF:bF B FB p c ns.length mm s.vars.length W s (bl++[nm]) aB v0 v1 v2 v3 v4) (hi:cN ns.length s) (fy:eu ns s (bl++[nm])) (hb0:Below B W0 W) (hfn:fn<s.funcs.length) (hsz:s.vars.length+wt ns n≤100000) (lK:s.funcs.length+wt ns n≤100000) (hbl:bl.length+wt ns n≤100000) (he:s.e=0):
  Calls Tryz.prog 172 #[.pointer (some ⟨FB,0,none⟩),.int .i64 n,.int .i64 fn,.bool loop] W (cE B FB p c ns mm aB (aJ FB mm aB v0 v1 v2 v3 v4) W bl nm (aA ns (k+1) n fn loop s)):=by
 have hres:aA ns (k+1) n fn loop s=aA ns k ((ax ns (n:Int)).getD 0 0) fn loop (cY ns s n fn):=by
  exact Qz
 rw [hres];clear hres;obtain⟨b,o,hp,bO,ct,aG,q0,q1,q2,q3⟩:=bh hN hn;have aX:=hb0.mono h0;have k0:=(aX.cell (p:=⟨b,_,none⟩) bO).trans q0;have k1:=(aX.cell (p:=⟨b,_,none⟩) bO).trans q1;have k2:=(aX.cell (p:=⟨b,_,none⟩) bO).trans q2;have k3:=(aX.cell (p:=⟨b,_,none⟩) bO).trans q3;have c0:W.cell? ⟨FB,0,none⟩=some (.slice (some ⟨b,o,none⟩) ns.length c):=iG;have sg:=hF.lt;have fR:=hF.ge;have Au:B≤W.heap.size:=af;have Gm:b<W.heap.size:=uj;have n0:(0:Int)≤(n:Int):=af;have n1:(n:Int)<(ns.length:Int):=af;have cD:=aL ct;have bW:ax ns (n:Int)=ns[n].kids:=iA;have fS:=cM ht n;have cO:=bH ht (n:=(n:Int)) af;rw [bW] at fS cO;have qV:∀g,aJ FB mm aB v0 v1 v2 v3 v4 g→g<W.heap.size:=fun g h=>(hF.dr h).2
 have vB:∀g,aJ FB mm aB v0 v1 v2 v3 v4 g→B≤g:=fun g h=>(hF.dr h).1
 have HX:=hid (iP qV FB fn loop ns[n]);have nE:=hid (cV W FB fn loop ns[n]);have qL:Hid (aK B W (cI W FB fn loop ns[n]) (aJ FB mm aB v0 v1 v2 v3 v4) (aJ FB mm aB v0 v1 v2 v3 v4)):=hid (aK.fresh nE.out Au);have xM:=hid (hF.later nE.out);have qM:=hid (hb0.trans qL.out.below);have EF:=hid (iQ aG qM.out h0 vB);have pz:=hid cD;have kH:=hid bW;have cH:=hid aG;have HN:=hid hN;have mD:=hid hb0;have kI:=hid bz;have Hi:=hid hi;have xE:=hid fy;have kj:=hid ht;have je:=hid IH;have lN:=hid cO;have Fp:=hid fS;have He:=hid he;have Qo:1≤wt ns n:=fQ ht.ahead n;have hk2:=tI ht hn az;rw [bW] at hk2;rw [bW];have eD:0<ns[n].kids.length:=af;obtain⟨lq,rq,fu,sX⟩:=EF.out 0 eD;have fB:=cO ns[n].kids[0] (List.getElem_mem eD);obtain⟨z0,hz0⟩:∃z:Nat,ns[n].kids[0]=(z:Int):=⟨(ns[n].kids[0]).toNat,by omega⟩;rw [hz0] at fB sX;have gG:ns[n].kids.getD 0 0=(z0:Int):=zL;have A0:fV ns (ns[n].kids.take 0)+wt ns z0≤fV ns ns[n].kids:=zM;rw [gG];have ach:z0<n:=af;rw [Nat.add_zero] at sX;have Hga:=hid (jI hi ns (n:Int) (fn:Int) af);have HC:=hid (Jn xM.out hi fy hN h0 qM.out n fn hn hfn af af af he);have HB0:=hid sX;have oK:(0:Int)<(ns[n].kids.length:Int):=af;have D7:¬ns[n].kids=[]:=fun h=>by rw [h] at eD;simp at eD
 rw [fu] at k2;clear hk2 sX fB hz0 gG;clear q0 q1 q2 q3 aX hF ct cD bW aG hN hb0 bz hi fy ht IH cO fS he qV vB hp;rw [pz.out] at az;obtain⟨sA,Wl⟩:∃sA,sA=cY ns s n fn:=⟨_,rfl⟩;rw [←Wl] at HC Hga ⊢;have HsA:=hid Wl;clear Wl;obtain⟨R,hR⟩:∃R,R=aA ns k (z0:Int) fn loop sA:=⟨_,rfl⟩;rw [←hR];have HR:=hid hR;clear hR;generalize ns[n]=x at*;obtain⟨xk,xt,xp,xc,dx,eY⟩:=x;simp only at az k0 k1 k2 k3 fu oK D7;subst az;subst fu;go_enter Tryz.func172,Tryz.ntmps172;go_wp2_with (go_at_call 220;refine(HC.out).mono ?_);intro e w9 hE;by_cases h1:sA.e=0
 ·obtain⟨rfl,ext,u0,u1,u2,u3,u4,_,xY,Io,fD⟩:=hE.1 h1;have MA:=hid (HX.out.step fD);have hv4:=Hga.out.v1;have hf4:=Hga.out.f0;have hf5:(cY ns s n fn).funcs=s.funcs:=lu ns s n fn;rw [←HsA.out] at hf5;have hf6:sA.funcs.length=s.funcs.length:=by rw [hf5]
  have HA:=hid (fun w1 U=>qK kj.out k n af kU je.out z0 ach fn loop w9 sA bl (nm++ext) aB u0 u1 u2 u3 u4 xY Hga.out.inv Io (qM.out.trans fD.below) af wE wE wE h1 _ W.heap.size MA.out w1 U);have e8:=MA.out.b8.cell;have l8:=MA.out.b8.lt;have e9:=MA.out.b9.cell;have l9:=MA.out.b9.lt;have ek:=(HB0.out.step fD).cell;have lk:=(HB0.out.step fD).lt;simp only at e8 e9;have Wm:=hid fD;clear hE xY Io fD hf5;generalize w9=wz at*;go_wp2;refine wp_region_any ai ?_;refine Am.cJ _ 6 rfl ai ?_;simp only [List.take_succ_cons,List.take_zero];refine Am.bM (Φ:=KO (.func (.func 214) #[] #[.pointer (some ⟨W.heap.size,0,none⟩),.pointer (some ⟨W.heap.size+1,0,none⟩),.pointer (some ⟨W.heap.size+1+1,0,none⟩)]) (.slice (some ⟨lq,rq,none⟩) dx.length xc) (W.heap.size+1+1+1) lq (rq) z0 wz.heap.size) (w0:=wz) ai ai oC ?_ ?_ _ ((Below.refl _ _).drew)
  ·have VG:=trivial;exact VF
  ·intro ca w1 hb hd hs aT bp;have hFE:ca.tmps.getD 66 undef=.func (.func 214) #[] #[.pointer (some ⟨W.heap.size,0,none⟩),.pointer (some ⟨W.heap.size+1,0,none⟩),.pointer (some ⟨W.heap.size+1+1,0,none⟩)]:=aT 0 _ 66 rfl rfl;obtain⟨U,hs5,hU,hUW⟩:∃U:Nat,ca.tmps.getD 71 undef=.slice (some ⟨U,0,none⟩) 1 1∧w1.heap[U]?=some (.cells #[.int .i64 z0] 3 (0,0))∧wz.heap.size≤U:=aT 5 _ 71 rfl rfl;have bf:=Am.bC hd hs bp;simp only [List.foldl_cons,List.foldl_nil,hFE,hs5] at bf;obtain⟨yf,jL⟩:∃y:Nat→Value,∀t,ca.tmps.getD t undef=y t:=⟨_,fun _=>rfl⟩;simp only [jL] at bf;clear jL;subst bf;simp only [List.setIfInBounds_toArray,List.set_cons_succ,List.set_cons_zero];have HCA:=hid (HA.out w1 U hb hU hUW);clear hb hd hs aT bp hFE hs5 hU e8 e9 ek;simp only [Am.gI];go_wp2_with (go_at_call 214;refine(HCA.out).mono ?_);intro e w8 hE;have nU:cE B FB p c ns mm aB (aJ FB mm aB v0 v1 v2 v3 v4) W bl nm R e w8:=by
    rw [HR.out];exact cE.trans (ext:=ext) (qL.out.trans Wm.out) hE
   rcases nU.ends with⟨rfl,_⟩|⟨rfl,_⟩
   ·have HE:=hid nU;clear hE nU;go_wp2;go_end0;exact HE.out
   ·exact⟨rfl,nU⟩
 ·obtain⟨rfl,fD⟩:=hE.2 h1;have jX:R=sA:=by rw [HR.out,jn ns k _ _ _ h1]
  exact⟨rfl,by rw [jX];exact cE.trans (ext:=[]) qL.out (by rw [List.append_nil];exact hE.any)⟩
theorem aci (ht:Tree ns) (hN:ay W0 p ns) (bz:∀x∈ns,x.kids.length≤x.aP) (h0:W0.heap.size≤B) (k n:Nat) (kU:n≤k) (hn:n<ns.length) (IH:∀q,q<n→jG B FB mm p c ns W0 k q) (az:aq ns (n:Int)=9) (fn:Nat) (loop:Bool) (W:World) (s:Fs) (bl:List ey) (nm:ey) (aB:List Nat) (v0 v1 v2 v3 v4:Value)
  (hF:bF B FB p c ns.length mm s.vars.length W s (bl++[nm]) aB v0 v1 v2 v3 v4) (hi:cN ns.length s) (fy:eu ns s (bl++[nm])) (hb0:Below B W0 W) (hfn:fn<s.funcs.length) (hsz:s.vars.length+wt ns n≤100000) (lK:s.funcs.length+wt ns n≤100000) (hbl:bl.length+wt ns n≤100000) (he:s.e=0):
  Calls Tryz.prog 172 #[.pointer (some ⟨FB,0,none⟩),.int .i64 n,.int .i64 fn,.bool loop] W (cE B FB p c ns mm aB (aJ FB mm aB v0 v1 v2 v3 v4) W bl nm (aA ns (k+1) n fn loop s)):=by
 have hres:aA ns (k+1) n fn loop s=aA ns k ((ax ns (n:Int)).getD 1 0) fn true (aA ns k ((ax ns (n:Int)).getD 0 0) fn loop s):=by
  exact QC
 rw [hres];clear hres;obtain⟨b,o,hp,bO,ct,aG,q0,q1,q2,q3⟩:=bh hN hn;have aX:=hb0.mono h0;have k0:=(aX.cell (p:=⟨b,_,none⟩) bO).trans q0;have k1:=(aX.cell (p:=⟨b,_,none⟩) bO).trans q1;have k2:=(aX.cell (p:=⟨b,_,none⟩) bO).trans q2;have k3:=(aX.cell (p:=⟨b,_,none⟩) bO).trans q3;have c0:W.cell? ⟨FB,0,none⟩=some (.slice (some ⟨b,o,none⟩) ns.length c):=iG;have sg:=hF.lt;have fR:=hF.ge;have Au:B≤W.heap.size:=af;have Gm:b<W.heap.size:=uj;have n0:(0:Int)≤(n:Int):=af;have n1:(n:Int)<(ns.length:Int):=af;have cD:=aL ct;have bW:ax ns (n:Int)=ns[n].kids:=iA;have fS:=cM ht n;have cO:=bH ht (n:=(n:Int)) af;rw [bW] at fS cO;have qV:∀g,aJ FB mm aB v0 v1 v2 v3 v4 g→g<W.heap.size:=fun g h=>(hF.dr h).2
 have vB:∀g,aJ FB mm aB v0 v1 v2 v3 v4 g→B≤g:=fun g h=>(hF.dr h).1
 have HX:=hid (iP qV FB fn loop ns[n]);have nE:=hid (cV W FB fn loop ns[n]);have qL:Hid (aK B W (cI W FB fn loop ns[n]) (aJ FB mm aB v0 v1 v2 v3 v4) (aJ FB mm aB v0 v1 v2 v3 v4)):=hid (aK.fresh nE.out Au);have xM:=hid (hF.later nE.out);have qM:=hid (hb0.trans qL.out.below);have EF:=hid (iQ aG qM.out h0 vB);have pz:=hid cD;have kH:=hid bW;have cH:=hid aG;have HN:=hid hN;have mD:=hid hb0;have kI:=hid bz;have Hi:=hid hi;have xE:=hid fy;have kj:=hid ht;have je:=hid IH;have lN:=hid cO;have Fp:=hid fS;have He:=hid he;have Qo:1≤wt ns n:=fQ ht.ahead n;have hk2:=eC ht hn az ak;rw [bW] at hk2;rw [bW];have eD:0<ns[n].kids.length:=af;have fq:1<ns[n].kids.length:=af;obtain⟨lq,rq,fu,sX⟩:=EF.out 0 eD;have fB:=cO ns[n].kids[0] (List.getElem_mem eD);obtain⟨z0,hz0⟩:∃z:Nat,ns[n].kids[0]=(z:Int):=⟨(ns[n].kids[0]).toNat,by omega⟩;rw [hz0] at fB sX;have gG:ns[n].kids.getD 0 0=(z0:Int):=zL;have A0:fV ns (ns[n].kids.take 0)+wt ns z0≤fV ns ns[n].kids:=zM;obtain⟨AO,Nf,fX,xC⟩:=EF.out 1 fq;have ep:=cO ns[n].kids[1] (List.getElem_mem fq);obtain⟨z1,hz1⟩:∃z:Nat,ns[n].kids[1]=(z:Int):=⟨(ns[n].kids[1]).toNat,by omega⟩;rw [hz1] at ep xC;have iH:ns[n].kids.getD 1 0=(z1:Int):=Cq;have Gz:fV ns (ns[n].kids.take 1)+wt ns z1≤fV ns ns[n].kids:=Cr;rw [gG,iH];have ach:z0<n:=af;have Wk:z1<n:=af;rw [Nat.add_zero] at sX;have atc:fV ns (ns[n].kids.take 1)=wt ns z0:=UE;have HA:=hid (fun w1 U=>qK ht k n af kU IH z0 ach fn loop (cI W FB fn loop ns[n]) s bl nm aB v0 v1 v2 v3 v4 xM.out hi fy qM.out hfn af af af he ns[n] W.heap.size HX.out w1 U);have Xx:=hid (eI ht k z0 (fn:Int) loop s af af hi);have oK:(0:Int)<(ns[n].kids.length:Int):=af;have D7:¬ns[n].kids=[]:=fun h=>by rw [h] at eD;simp at eD
 have mJ:(1:Int)<(ns[n].kids.length:Int):=af;have e8:=HX.out.b8.cell;have l8:=HX.out.b8.lt;have e9:=HX.out.b9.cell;have l9:=HX.out.b9.lt;have ek:=sX.cell;have lk:=sX.lt;rw [fu] at e8 k2;rw [fu] at fX;have HB1:=hid xC;clear hk2 sX fB hz0 gG xC ep hz1 iH;clear q0 q1 q2 q3 aX hF ct cD bW aG hN hb0 bz hi fy ht IH cO fS he qV vB hp;rw [pz.out] at az;obtain⟨sA,Wl⟩:∃sA,sA=aA ns k (z0:Int) fn loop s:=⟨_,rfl⟩;rw [←Wl] at HA Xx ⊢;have HsA:=hid Wl;clear Wl;obtain⟨R,hR⟩:∃R,R=aA ns k (z1:Int) fn true sA:=⟨_,rfl⟩;rw [←hR];have HR:=hid hR;clear hR;generalize ns[n]=x at*;obtain⟨xk,xt,xp,xc,dx,eY⟩:=x;simp only at az k0 k1 k2 k3 e8 e9 fu fX oK mJ D7;subst az;subst fu;cases fX;go_enter Tryz.func172,Tryz.ntmps172;go_wp2;change Code.wp _ _ _ _ (cI W FB fn loop ⟨9,xt,some ⟨lq,rq,none⟩,xc,dx,eY⟩);generalize cI W FB fn loop ⟨9,xt,some ⟨lq,rq,none⟩,xc,dx,eY⟩=wz at*;refine wp_region_any ai ?_;refine Am.cJ _ 6 rfl ai ?_;simp only [List.take_succ_cons,List.take_zero];refine Am.bM (Φ:=KO (.func (.func 214) #[] #[.pointer (some ⟨W.heap.size,0,none⟩),.pointer (some ⟨W.heap.size+1,0,none⟩),.pointer (some ⟨W.heap.size+1+1,0,none⟩)]) (.slice (some ⟨lq,rq,none⟩) dx.length xc) (W.heap.size+1+1+1) lq (rq) z0 wz.heap.size) (w0:=wz) ai ai oC ?_ ?_ _ ((Below.refl _ _).drew)
 ·have VH:=trivial;exact VF
 ·intro ca w1 hb hd hs aT bp;have hFE:ca.tmps.getD 109 undef=.func (.func 214) #[] #[.pointer (some ⟨W.heap.size,0,none⟩),.pointer (some ⟨W.heap.size+1,0,none⟩),.pointer (some ⟨W.heap.size+1+1,0,none⟩)]:=aT 0 _ 109 rfl rfl;obtain⟨U,hs5,hU,hUW⟩:∃U:Nat,ca.tmps.getD 114 undef=.slice (some ⟨U,0,none⟩) 1 1∧w1.heap[U]?=some (.cells #[.int .i64 z0] 3 (0,0))∧wz.heap.size≤U:=aT 5 _ 114 rfl rfl;have bf:=Am.bC hd hs bp;simp only [List.foldl_cons,List.foldl_nil,hFE,hs5] at bf;obtain⟨yf,jL⟩:∃y:Nat→Value,∀t,ca.tmps.getD t undef=y t:=⟨_,fun _=>rfl⟩;simp only [jL] at bf;clear jL;subst bf;simp only [List.setIfInBounds_toArray,List.set_cons_succ,List.set_cons_zero];have HCA:=hid (HA.out w1 U hb hU hUW);clear hb hd hs aT bp hFE hs5 hU e8 e9 ek;simp only [Am.gI];go_wp2_with (go_at_call 214;refine(HCA.out).mono ?_);intro e w9 hE;by_cases h1:sA.e=0
  ·obtain⟨rfl,ext,u0,u1,u2,u3,u4,_,xY,Io,fD⟩:=hE.1 h1;have MA:=HX.out.step fD;have d4:=MA.b4.cell;have d6:=MA.b6.cell;have d8:=MA.b8.cell;have dk:=(HB1.out.step fD).cell;simp only at d8;have hv4:=Xx.out.v1;have hf4:=Xx.out.f0;have hf5:=Xx.out.f1;have hBw:B≤w9.heap.size:=by have:=xY.lt;omega
   have HC2:=hid (je.out z1 Wk fn true w9.drew sA bl (nm++ext) aB u0 u1 u2 u3 u4 (xY.later (Below.refl _ _).drew) Xx.out.inv Io ((qM.out.trans fD.below).trans (Below.refl _ _).drew) af wE wE wE h1);have Wm:=hid (fD.trans (aK.fresh (O:=aJ FB mm aB u0 u1 u2 u3 u4) (Below.refl _ _).drew hBw));clear hE xY Io fD MA;go_wp2;go_still_tail 6,ai;go_wp2_with (go_at_call 172;refine(HC2.out).mono ?_);intro e w8 hE;have nU:cE B FB p c ns mm aB (aJ FB mm aB v0 v1 v2 v3 v4) W bl nm R e w8:=by
    rw [HR.out];exact cE.trans (ext:=ext) (qL.out.trans Wm.out) hE
   rcases nU.ends with⟨rfl,_⟩|⟨rfl,_⟩
   ·have HE:=hid nU;clear hE nU;go_wp2;go_end0;exact HE.out
   ·exact⟨rfl,nU⟩
  ·obtain⟨rfl,fD⟩:=hE.2 h1;have jX:R=sA:=by rw [HR.out,jn ns k _ _ _ h1]
   exact⟨rfl,by rw [jX];exact cE.trans (ext:=[]) qL.out rE⟩
theorem acj (ht:Tree ns) (hN:ay W0 p ns) (bz:∀x∈ns,x.kids.length≤x.aP) (h0:W0.heap.size≤B) (k n:Nat) (kU:n≤k) (hn:n<ns.length) (IH:∀q,q<n→jG B FB mm p c ns W0 k q) (az:aq ns (n:Int)=6) (fn:Nat) (loop:Bool) (W:World) (s:Fs) (bl:List ey) (nm:ey) (aB:List Nat) (v0 v1 v2 v3 v4:Value)
  (hF:bF B FB p c ns.length mm s.vars.length W s (bl++[nm]) aB v0 v1 v2 v3 v4) (hi:cN ns.length s) (fy:eu ns s (bl++[nm])) (hb0:Below B W0 W) (hfn:fn<s.funcs.length) (hsz:s.vars.length+wt ns n≤100000) (lK:s.funcs.length+wt ns n≤100000) (hbl:bl.length+wt ns n≤100000) (he:s.e=0):
  Calls Tryz.prog 172 #[.pointer (some ⟨FB,0,none⟩),.int .i64 n,.int .i64 fn,.bool loop] W (cE B FB p c ns mm aB (aJ FB mm aB v0 v1 v2 v3 v4) W bl nm (aA ns (k+1) n fn loop s)):=by
 have hres:aA ns (k+1) n fn loop s=aA ns k ((ax ns (n:Int)).getD 1 0) fn loop (if aq ns ((ax ns (n:Int)).getD 0 0)=17 then jq ns s ((ax ns (n:Int)).getD 0 0) fn true else aA ns k ((ax ns (n:Int)).getD 0 0) fn loop s):=by
  exact QE
 rw [hres];clear hres;obtain⟨b,o,hp,bO,ct,aG,q0,q1,q2,q3⟩:=bh hN hn;have aX:=hb0.mono h0;have k0:=(aX.cell (p:=⟨b,_,none⟩) bO).trans q0;have k1:=(aX.cell (p:=⟨b,_,none⟩) bO).trans q1;have k2:=(aX.cell (p:=⟨b,_,none⟩) bO).trans q2;have k3:=(aX.cell (p:=⟨b,_,none⟩) bO).trans q3;have c0:W.cell? ⟨FB,0,none⟩=some (.slice (some ⟨b,o,none⟩) ns.length c):=iG;have sg:=hF.lt;have fR:=hF.ge;have Au:B≤W.heap.size:=af;have Gm:b<W.heap.size:=uj;have n0:(0:Int)≤(n:Int):=af;have n1:(n:Int)<(ns.length:Int):=af;have cD:=aL ct;have bW:ax ns (n:Int)=ns[n].kids:=iA;have fS:=cM ht n;have cO:=bH ht (n:=(n:Int)) af;rw [bW] at fS cO;have qV:∀g,aJ FB mm aB v0 v1 v2 v3 v4 g→g<W.heap.size:=fun g h=>(hF.dr h).2
 have vB:∀g,aJ FB mm aB v0 v1 v2 v3 v4 g→B≤g:=fun g h=>(hF.dr h).1
 have HX:=hid (iP qV FB fn loop ns[n]);have nE:=hid (cV W FB fn loop ns[n]);have qL:Hid (aK B W (cI W FB fn loop ns[n]) (aJ FB mm aB v0 v1 v2 v3 v4) (aJ FB mm aB v0 v1 v2 v3 v4)):=hid (aK.fresh nE.out Au);have xM:=hid (hF.later nE.out);have qM:=hid (hb0.trans qL.out.below);have EF:=hid (iQ aG qM.out h0 vB);have pz:=hid cD;have kH:=hid bW;have cH:=hid aG;have HN:=hid hN;have mD:=hid hb0;have kI:=hid bz;have Hi:=hid hi;have xE:=hid fy;have kj:=hid ht;have je:=hid IH;have lN:=hid cO;have Fp:=hid fS;have He:=hid he;have Qo:1≤wt ns n:=fQ ht.ahead n;have hk2:=Wj ht hn az;rw [bW] at hk2;rw [bW];have eD:0<ns[n].kids.length:=af;have fq:1<ns[n].kids.length:=af;obtain⟨lq,rq,fu,sX⟩:=EF.out 0 eD;have fB:=cO ns[n].kids[0] (List.getElem_mem eD);obtain⟨z0,hz0⟩:∃z:Nat,ns[n].kids[0]=(z:Int):=⟨(ns[n].kids[0]).toNat,by omega⟩;rw [hz0] at fB sX;have gG:ns[n].kids.getD 0 0=(z0:Int):=zL;have A0:fV ns (ns[n].kids.take 0)+wt ns z0≤fV ns ns[n].kids:=zM;obtain⟨AO,Nf,fX,xC⟩:=EF.out 1 fq;have ep:=cO ns[n].kids[1] (List.getElem_mem fq);obtain⟨z1,hz1⟩:∃z:Nat,ns[n].kids[1]=(z:Int):=⟨(ns[n].kids[1]).toNat,by omega⟩;rw [hz1] at ep xC;have iH:ns[n].kids.getD 1 0=(z1:Int):=Cq;have Gz:fV ns (ns[n].kids.take 1)+wt ns z1≤fV ns ns[n].kids:=Cr;rw [gG,iH];have ach:z0<n:=af;have Wk:z1<n:=af;rw [Nat.add_zero] at sX;have atc:fV ns (ns[n].kids.take 1)=wt ns z0:=UE;have anR:ns[n].kids=[(z0:Int),(z1:Int)]:=by
  apply List.ext_getElem hk2;intro i h1 h2;rcases i with _|_|i
  ·exact hz0
  ·exact hz1
  ·exact absurd h2 ak
 have Fo:z0<ns.length:=af;obtain⟨b2,o2,Aj,lg,anS,_,qk0,_,_,_⟩:=bh hN Fo;rw [hp] at Aj;cases Aj;have kf:=aL anS;have ez:=((qM.out.mono h0).cell (p:=⟨b,_,none⟩) lg).trans qk0;rw [←kf] at ez;have c0z:(cI W FB fn loop ns[n]).cell? ⟨FB,0,none⟩=some (.slice (some ⟨b,o,none⟩) ns.length c):=by rw [←hp];exact xM.out.cell 0
 have d4z:=HX.out.b4.cell;have d6z:=HX.out.b6.cell;have zz0:(0:Int)≤(z0:Int):=af;have zz1:(z0:Int)<(ns.length:Int):=af;have oK:(0:Int)<(ns[n].kids.length:Int):=af;have mJ:(1:Int)<(ns[n].kids.length:Int):=af;have D7:¬ns[n].kids=[]:=fun h=>by rw [h] at eD;simp at eD
 have e8:=HX.out.b8.cell;have e9:=HX.out.b9.cell;have ek0:=sX.cell;rw [fu] at e8 k2;rw [fu] at fX;have HB1:=hid xC;have as9:s.vars.length+wt ns z0+wt ns z1≤100000:=af;have azA:s.funcs.length+wt ns z0+wt ns z1≤100000:=af;have azB:bl.length+wt ns z0+wt ns z1≤100000:=af;clear hk2 sX fB hz0 gG xC ep hz1 iH qk0 anS kf;have HCB:Hid (∀wq,Below (cI W FB fn loop ns[n]).heap.size (cI W FB fn loop ns[n]) wq→Calls Tryz.prog 214 #[.slice (some ⟨lq,rq,none⟩) ns[n].kids.length ns[n].aP,.pointer (some ⟨W.heap.size,0,none⟩),.pointer (some ⟨W.heap.size+1,0,none⟩),.pointer (some ⟨W.heap.size+1+1,0,none⟩)] wq (cE B FB p c ns mm aB (aJ FB mm aB v0 v1 v2 v3 v4) (cI W FB fn loop ns[n]) bl nm (aA ns k z1 fn loop (aA ns k z0 fn loop s)))):=hid (fun wq hb=>by
  have hs:aK B (cI W FB fn loop ns[n]) wq (aJ FB mm aB v0 v1 v2 v3 v4) (aJ FB mm aB v0 v1 v2 v3 v4):=aK.fresh hb (by have:=(cV W FB fn loop ns[n]).size;omega);have:=CK ht k n af kU IH ns[n].kids cO fn loop wq s bl nm aB v0 v1 v2 v3 v4 (xM.out.later hb) hi fy (qM.out.trans hs.below) hfn af af af he (some ⟨lq,rq,none⟩) ns[n].aP W.heap.size (W.heap.size+1) (W.heap.size+2) (by rw [←fu];exact EF.out.step hs) (HX.out.step hs).b4 (HX.out.step hs).b6 (HX.out.step hs).b7;refine this.mono fun e w' hE=>?_
  have e1:ns[n].kids.foldl (fun s q=>aA ns k q fn loop s) s=aA ns k z1 fn loop (aA ns k z0 fn loop s):=by rw [anR];rfl
  rw [e1] at hE;exact cE.trans (ext:=[]) hs rE)
 clear anR;have hlk:=LY fy (z0:Int) fn true;have OZ:=hid hlk;clear hlk;have HuN:Hid (cr (bl++[nm]).flatten (dS ns (z0:Int))=none→∀wq,Below (cI W FB fn loop ns[n]).heap.size (cI W FB fn loop ns[n]) wq→Calls Tryz.prog 215 #[.pointer (some ⟨FB,0,none⟩),.int .i64 z0,.int .i64 fn] wq fun e w'=>e=.panicked (kG z0 110)∧aK B (cI W FB fn loop ns[n]) w' (aJ FB mm aB v0 v1 v2 v3 v4) (aJ FB mm aB v0 v1 v2 v3 v4)):=hid (fun hf wq hb=>by
  have hs:aK B (cI W FB fn loop ns[n]) wq (aJ FB mm aB v0 v1 v2 v3 v4) (aJ FB mm aB v0 v1 v2 v3 v4):=aK.fresh hb (by have:=(cV W FB fn loop ns[n]).size;omega);exact(wH (xM.out.later hb) hi hN h0 (qM.out.trans hs.below) z0 fn af bt hf).mono fun e w' ⟨h1,h2⟩=>⟨h1,hs.trans h2⟩)
 have HuS:Hid (∀vv:Nat,cr (bl++[nm]).flatten (dS ns (z0:Int))=some (vv:Int)→∀wq,Below (cI W FB fn loop ns[n]).heap.size (cI W FB fn loop ns[n]) wq→Calls Tryz.prog 215 #[.pointer (some ⟨FB,0,none⟩),.int .i64 z0,.int .i64 fn] wq fun e w'=>∃gv,e=.returned (.pointer (some ⟨gv,vv*4,none⟩))∧(∃x,w'.cell? ⟨gv,vv*4+3,none⟩=some (.bool x))∧w'.frozen? ⟨gv,vv*4+3,none⟩=false∧
   bF B FB p c ns.length mm (bT s z0 vv fn true).vars.length (w'.setCell ⟨gv,vv*4+3,none⟩ (.bool true)) (bT s z0 vv fn true) (bl++[nm]) aB v0 v1 v2 v3 v4∧aK B (cI W FB fn loop ns[n]) (w'.setCell ⟨gv,vv*4+3,none⟩ (.bool true)) (aJ FB mm aB v0 v1 v2 v3 v4) (aJ FB mm aB v0 v1 v2 v3 v4)):=hid (fun vv hf wq hb=>by
  have hs:aK B (cI W FB fn loop ns[n]) wq (aJ FB mm aB v0 v1 v2 v3 v4) (aJ FB mm aB v0 v1 v2 v3 v4):=aK.fresh hb (by have:=(cV W FB fn loop ns[n]).size;omega);refine(wI (xM.out.later hb) hi fy hN h0 (qM.out.trans hs.below) z0 fn af bt af vv hf).mono ?_;rintro e w' ⟨⟨gv,cp,hv0,xA,rfl⟩,xY,fD⟩;have wN:(bT s z0 vv fn false).vars.length=s.vars.length:=by simp [bT]
  have hl2:(bT s z0 vv fn true).vars.length=s.vars.length:=by simp [bT]
  have ajx:vv<(bT s z0 vv fn false).vars.length:=af;obtain⟨g,cp2,hv,hg,Xq,fvj⟩:=Tm xY.vars ajx;rw [wN,hv0] at hv;cases hv;refine⟨gv,rfl,⟨_,Xq 3 aj⟩,fvj _, ?_,fD|>hs.trans|>.trans (aK.row hg (by unfold aJ;rw [hv0];simp [Value.ownBlock]) (by have:=xY.lt;omega))⟩;rw [hl2];have h3:=xY.xN (g:=gv) (cp:=cp) (i:=vv) (j:=3) (by rw [wN];exact hv0) ajx aj {(bT s z0 vv fn false).vars[vv] with set:=true} (.bool true) rfl;exact h3.congr (KP ajx) rfl rfl rfl rfl)
 have HA:Hid (∀vv:Nat,cr (bl++[nm]).flatten (dS ns (z0:Int))=some (vv:Int)→∀O5,bF B FB p c ns.length mm (bT s z0 vv fn true).vars.length O5 (bT s z0 vv fn true) (bl++[nm]) aB v0 v1 v2 v3 v4→aK B (cI W FB fn loop ns[n]) O5 (aJ FB mm aB v0 v1 v2 v3 v4) (aJ FB mm aB v0 v1 v2 v3 v4)→∀w1 U,Below O5.heap.size O5 w1→w1.heap[U]?=some (.cells #[.int .i64 z1] 3 (0,0))→O5.heap.size≤U→
   Calls Tryz.prog 214 #[.slice (some ⟨U,0,none⟩) 1 1,.pointer (some ⟨W.heap.size,0,none⟩),.pointer (some ⟨W.heap.size+1,0,none⟩),.pointer (some ⟨W.heap.size+1+1,0,none⟩)] w1 (cE B FB p c ns mm aB (aJ FB mm aB v0 v1 v2 v3 v4) O5 bl nm (aA ns k z1 fn loop (bT s z0 vv fn true)))):=hid (fun vv hf O5 Wn En w1 U=>by
  have hl2:(bT s z0 vv fn true).vars.length=s.vars.length:=by simp [bT]
  exact qK ht k n af kU IH z1 Wk fn loop O5 (bT s z0 vv fn true) bl nm aB v0 v1 v2 v3 v4 Wn (BZ hi (z0:Int) vv fn true 0).inv (fy.take _ _ _ _) (qM.out.trans En.below) hfn (by rw [hl2];omega) (by show s.funcs.length+_≤_;omega) af he ns[n] W.heap.size (HX.out.step En) w1 U)
 obtain⟨q0',yz⟩:∃q0',q0'=aq ns (z0:Int):=⟨_,rfl⟩;rw [←yz] at ez ⊢;clear q0 q1 q2 q3 aX hF ct cD bW aG hN hb0 bz hi fy ht IH cO fS he qV vB hp;rw [pz.out] at az;obtain⟨R,hR⟩:∃R,R=aA ns k (z1:Int) fn loop (if(q0':Int)=17 then jq ns s (z0:Int) fn true else aA ns k (z0:Int) fn loop s):=⟨_,rfl⟩;rw [←hR];have HR:=hid hR;clear hR;have azF:=hid yz;clear yz;generalize ns[n]=x at*;obtain⟨xk,xt,xp,xc,dx,eY⟩:=x;simp only at az k0 k1 k2 k3 e8 e9 fu fX oK mJ D7;subst az;subst fu;cases fX;go_enter Tryz.func172,Tryz.ntmps172;go_wp2;change Code.wp _ _ _ _ (cI W FB fn loop ⟨6,xt,some ⟨lq,rq,none⟩,xc,dx,eY⟩);generalize cI W FB fn loop ⟨6,xt,some ⟨lq,rq,none⟩,xc,dx,eY⟩=wz at*;by_cases PS:(q0':Int)=17
 ·rw [PS] at ez;have jX:R=aA ns k (z1:Int) fn loop (jq ns s (z0:Int) fn true):=by rw [HR.out,if_pos PS]
  have pF:=hid jX;clear jX;cases hf:cr (bl++[nm]).flatten (dS ns (z0:Int)) with
  |none=>
   have hs1:jq ns s (z0:Int) fn true=bB s z0 110:=by rw [OZ.out,hf]
   have hs2:=k8 He.out (z0:Int) 110;rw [←hs1] at hs2;have qZ:R=jq ns s (z0:Int) fn true:=by rw [pF.out];exact jn ns k _ _ _ (by rw [hs2.1];decide)
   rw [←qZ] at hs2;have Hs2:=hid hs2;have HC:=hid (HuN.out hf);clear hs1 hs2 hf qZ;go_quiet (fail);rename_i nq;have d4v:=cell_later (below_drewN wz nq) d4z;have d6v:=cell_later (below_drewN wz nq) d6z;have e8v:=cell_later (below_drewN wz nq) e8;have ekv:=cell_later (below_drewN wz nq) ek0;have NU:Below wz.heap.size wz (wz.drewN nq).drew:=(below_drewN wz nq).drew;have Hbq:=hid NU;clear NU;generalize wz.drewN nq=wv at*;go_wp2;go_still_tail 6,ai;go_wp2_with (go_at_call 215;refine(HC.out _ Hbq.out).mono ?_);rintro e w9 ⟨rfl,hst⟩;exact⟨rfl,cE.fails (a:=(z0:Int)) (ee:=110) aj Hs2.out.1 Hs2.out.2 rfl (qL.out.trans hst).weak⟩
  |some v=>
   have xA:=DU Hi.out xE.out hf;obtain⟨vv,rfl⟩:∃vv:Nat,v=vv:=⟨v.toNat,by omega⟩;have hs1:jq ns s (z0:Int) fn true=bT s z0 vv fn true:=by rw [OZ.out,hf]
   have qZ:R=aA ns k (z1:Int) fn loop (bT s z0 vv fn true):=by rw [pF.out,hs1]
   have Ki:=hid qZ;have HC:=hid (HuS.out vv hf);have HA2:=hid (HA.out vv hf);clear hs1 hf xA qZ HA;go_quiet (fail);rename_i nq;have d4v:=cell_later (below_drewN wz nq) d4z;have d6v:=cell_later (below_drewN wz nq) d6z;have e8v:=cell_later (below_drewN wz nq) e8;have ekv:=cell_later (below_drewN wz nq) ek0;have NU:Below wz.heap.size wz (wz.drewN nq).drew:=(below_drewN wz nq).drew;have Hbq:=hid NU;clear NU;generalize wz.drewN nq=wv at*;go_wp2;go_still_tail 6,ai;go_wp2_with (go_at_call 215;refine(HC.out _ Hbq.out).mono ?_);rintro e w9 ⟨gv,rfl,⟨xb,g3⟩,g3f,Wn,En⟩;have azI:=hid Wn;have atg:=hid En;have ack:=hid (HX.out.step En);have HA:=hid (HA2.out _ Wn En);have e8':=ack.out.b8.cell;have l8:=ack.out.b8.lt;have e9':=ack.out.b9.cell;have l9:=ack.out.b9.lt;have ek:=(HB1.out.step En).cell;have lk:=(HB1.out.step En).lt;simp only at e8';clear Wn En e8 e9;go_wp2;generalize (w9.setCell ⟨gv,vv*4+3,none⟩ (.bool true))=wy at*;have e8:=e8';have e9:=e9';clear e8' e9' d4v d6v e8v ekv g3 g3f ez c0z d4z d6z ek0;refine wp_region_any ai ?_;refine Am.cJ _ 6 rfl ai ?_;simp only [List.take_succ_cons,List.take_zero];refine Am.bM (Φ:=KO (.func (.func 214) #[] #[.pointer (some ⟨W.heap.size,0,none⟩),.pointer (some ⟨W.heap.size+1,0,none⟩),.pointer (some ⟨W.heap.size+1+1,0,none⟩)]) (.slice (some ⟨lq,rq,none⟩) dx.length xc) (W.heap.size+1+1+1) lq (rq+1) z1 wy.heap.size) (w0:=wy) ai ai oC ?_ ?_ _ ((Below.refl _ _).drew)
   ·have VI:=trivial;exact VF
   ·intro ca w1 hb hd hs aT bp;have hFE:ca.tmps.getD 96 undef=.func (.func 214) #[] #[.pointer (some ⟨W.heap.size,0,none⟩),.pointer (some ⟨W.heap.size+1,0,none⟩),.pointer (some ⟨W.heap.size+1+1,0,none⟩)]:=aT 0 _ 96 rfl rfl;obtain⟨U,hs5,hU,hUW⟩:∃U:Nat,ca.tmps.getD 101 undef=.slice (some ⟨U,0,none⟩) 1 1∧w1.heap[U]?=some (.cells #[.int .i64 z1] 3 (0,0))∧wy.heap.size≤U:=aT 5 _ 101 rfl rfl;have bf:=Am.bC hd hs bp;simp only [List.foldl_cons,List.foldl_nil,hFE,hs5] at bf;obtain⟨yf,jL⟩:∃y:Nat→Value,∀t,ca.tmps.getD t undef=y t:=⟨_,fun _=>rfl⟩;simp only [jL] at bf;clear jL;subst bf;simp only [List.setIfInBounds_toArray,List.set_cons_succ,List.set_cons_zero];have HCA:=hid (HA.out w1 U hb hU hUW);clear hb hd hs aT bp hFE hs5 hU e8 e9 ek;simp only [Am.gI];go_wp2_with (go_at_call 214;refine(HCA.out).mono ?_);intro e w8 hE;have nU:cE B FB p c ns mm aB (aJ FB mm aB v0 v1 v2 v3 v4) W bl nm R e w8:=by
     rw [Ki.out];exact cE.trans (ext:=[]) (qL.out.trans atg.out) rE
    rcases nU.ends with⟨rfl,_⟩|⟨rfl,_⟩
    ·have HE:=hid nU;clear hE nU;go_wp2;go_end0;exact HE.out
    ·exact⟨rfl,nU⟩
 ·have jX:R=aA ns k (z1:Int) fn loop (aA ns k (z0:Int) fn loop s):=by rw [HR.out,if_neg PS]
  have pF:=hid jX;clear jX;go_quiet (fail);rename_i nq;have Hbq:=hid (below_drewN wz nq);go_wp2_with (go_at_call 214;refine(HCB.out _ Hbq.out).mono ?_);intro e w8 hE;have nU:cE B FB p c ns mm aB (aJ FB mm aB v0 v1 v2 v3 v4) W bl nm R e w8:=by
   rw [pF.out];exact cE.trans (ext:=[]) qL.out rE
  rcases nU.ends with⟨rfl,_⟩|⟨rfl,_⟩
  ·have HE:=hid nU;clear hE nU;go_wp2;go_end0;exact HE.out
  ·exact⟨rfl,nU⟩
theorem Mz (ht:Tree ns) (hN:ay W0 p ns) (bz:∀x∈ns,x.kids.length≤x.aP) (h0:W0.heap.size≤B):∀(k n:Nat),n<k→n<ns.length→jG B FB mm p c ns W0 k n
 |0,n,h,_=>absurd h af
 |k+1,n,kU,hn=>fun fn loop W s bl nm aB v0 v1 v2 v3 v4 hF hi fy hb0 hfn hsz lK hbl he=>by
  have IH:∀q,q<n→jG B FB mm p c ns W0 k q:=fun q hq=>Mz ht hN bz h0 k q af af
  by_cases m1:aq ns (n:Int)=17
  ·exact Td ht hN bz h0 k n af hn IH m1 fn loop W s bl nm aB v0 v1 v2 v3 v4 hF hi fy hb0 hfn hsz lK hbl he
  by_cases m2:aq ns (n:Int)=11
  ·exact Te ht hN bz h0 k n af hn IH m2 fn loop W s bl nm aB v0 v1 v2 v3 v4 hF hi fy hb0 hfn hsz lK hbl he
  by_cases m3:aq ns (n:Int)=22
  ·exact Tf ht hN bz h0 k n af hn IH m3 fn loop W s bl nm aB v0 v1 v2 v3 v4 hF hi fy hb0 hfn hsz lK hbl he
  by_cases m4:aq ns (n:Int)=4
  ·exact acf ht hN bz h0 k n af hn IH m4 fn loop W s bl nm aB v0 v1 v2 v3 v4 hF hi fy hb0 hfn hsz lK hbl he
  by_cases m5:aq ns (n:Int)=5
  ·exact acg ht hN bz h0 k n af hn IH m5 fn loop W s bl nm aB v0 v1 v2 v3 v4 hF hi fy hb0 hfn hsz lK hbl he
  by_cases m6:aq ns (n:Int)=6
  ·exact acj ht hN bz h0 k n af hn IH m6 fn loop W s bl nm aB v0 v1 v2 v3 v4 hF hi fy hb0 hfn hsz lK hbl he
  by_cases m7:aq ns (n:Int)=9
  ·exact aci ht hN bz h0 k n af hn IH m7 fn loop W s bl nm aB v0 v1 v2 v3 v4 hF hi fy hb0 hfn hsz lK hbl he
  by_cases m8:aq ns (n:Int)=3
  ·exact ZI ht hN bz h0 k n af hn IH m8 fn loop W s bl nm aB v0 v1 v2 v3 v4 hF hi fy hb0 hfn hsz lK hbl he
  exact J5 ht hN bz h0 k n af hn IH ⟨m1,m2,m3,m4,m5,m6,m7,m8⟩ fn loop W s bl nm aB v0 v1 v2 v3 v4 hF hi fy hb0 hfn hsz lK hbl he
end
end Go.Proofs.YtjchnliaglecoaaGreatDoor

/- A part of the proof. Conditions: none. -/
set_option maxRecDepth 100000
set_option maxHeartbeats 8000000
namespace Go.Proofs.YtjchnliaglecoaaGreatDoor
open Go Go.RowKit Go.Nodes Go.Maps Go.WideMaps Go.ChangeShapes
def A1 (B FB:Nat) (p:Option Addr) (c:Nat) (ns:List Nd) (mm:Nat) (aB:List Nat) (O:Nat→Prop) (W:World) (fY:List ey) (s1:Fs) (e:Ending) (w':World):Prop:=
 (s1.e=0→e=.returned (.tuple #[])∧∃v0 v1 v2 v3 v4,bF B FB p c ns.length mm s1.vars.length w' s1 fY aB v0 v1 v2 v3 v4∧eu ns s1 fY∧aK B W w' O (aJ FB mm aB v0 v1 v2 v3 v4))∧
 (s1.e≠0→e=.panicked (kG s1.bE s1.e)∧aK B W w' O (fun g=>O g∨W.heap.size≤g))
theorem A1.ends {B FB mm:Nat} {p:Option Addr} {c:Nat} {ns:List Nd} {O:Nat→Prop} {W w':World} {fY:List ey} {aB:List Nat} {s1:Fs} {e:Ending} (h:A1 B FB p c ns mm aB O W fY s1 e w'):(e=.returned (.tuple #[])∧s1.e=0)∨(e=.panicked (kG s1.bE s1.e)∧s1.e≠0):=by
 by_cases h1:s1.e=0
 ·exact .inl ⟨(h.1 h1).1,h1⟩
 ·exact .inr ⟨(h.2 h1).1,h1⟩
theorem A1.trans {B FB mm:Nat} {p:Option Addr} {c:Nat} {ns:List Nd} {W w1 w':World} {O O1:Nat→Prop} {fY:List ey} {aB:List Nat} {s1:Fs} {e:Ending} (hs:aK B W w1 O O1) (h:A1 B FB p c ns mm aB O1 w1 fY s1 e w'):A1 B FB p c ns mm aB O W fY s1 e w':=by
 refine⟨fun h1=>?_,fun h1=>?_⟩
 ·obtain⟨e1,v0,v1,v2,v3,v4,a,b,d⟩:=h.1 h1;exact⟨e1,v0,v1,v2,v3,v4,a,b,hs.trans d⟩
 ·obtain⟨e1,d⟩:=h.2 h1;exact⟨e1,(hs.trans d).weak⟩
theorem Ky {B FB mm:Nat} {p:Option Addr} {c:Nat} {ns:List Nd} {W:World} {s s1:Fs} {fY:List ey} {aB:List Nat} {v0 v1 v2 v3 v4:Value} (hF:bF B FB p c ns.length mm s.vars.length W s fY aB v0 v1 v2 v3 v4) (fy:eu ns s fY)
  (hbl:fY.length≤100001) (Ya:FuncId) (Dg:Array Value) (hcf:∀w,(callFunc Ya Dg).run Tryz.prog w=.ok (.enter Ya Dg) w)
  (hC:∀(W1:World) (OW:Value) (mb:Nat),bF B FB p c ns.length mm s.vars.length W1 s (fY++[[]]) (aB++[mb]) v0 v1 v2 v3 OW→aK B W W1 (aJ FB mm aB v0 v1 v2 v3 v4) (aJ FB mm (aB++[mb]) v0 v1 v2 v3 OW)→
   Calls Tryz.prog Ya Dg W1 (cE B FB p c ns mm (aB++[mb]) (aJ FB mm (aB++[mb]) v0 v1 v2 v3 OW) W1 fY [] s1)):
  Calls Tryz.prog 217 #[.pointer (some ⟨FB,0,none⟩),.func (.func Ya) #[] Dg] W (A1 B FB p c ns mm aB (aJ FB mm aB v0 v1 v2 v3 v4) W fY (sr s1 s)):=by
 have yu:= @run_makeMap Tryz.prog;have lV:aB.length=fY.length:=hF.len;obtain⟨Q,hQ⟩:∃Q,Q=aB.length:=⟨_,rfl⟩;have hQ1:Q≤100001:=af;obtain⟨sv,sc,nR⟩:∃sv sc,v4=.slice sv Q sc:=by
  exact QN
 have c5:W.cell? ⟨FB,5,none⟩=some (.slice sv Q sc):=Fw;have sg:=hF.lt;have fR:=hF.ge;have HF:=hid hF;have HC:=hid hC;have HQ:=hid hQ;have Hsv:=hid nR;obtain⟨iM,hiM,zM0,zM1,zM2⟩:=info_parts Tryz.QK;clear hF hC hQ nR;go_enter Tryz.func217,Tryz.ntmps217;go_wp2_with (at_builtin;go_loud (refine cT _ rfl _ _ 187 rfl B 119 iM _ 1 8 Tryz.underlying187 hiM zM0 zM1 zM2 rfl aj (.slice sv Q sc) Q (aB.map fun b=>.map (some b)) rfl ?yH ⟨W.heap.size+1,0,none⟩ 1 1 aj [.map (some W.heap.size)] rfl rfl ?BD Fx ?Yb ?su ?pZ ?p4))
 case yH=>
  exact QO
 case BD=>
  exact QS
 case Yb=>unfold maxLen;omega
 case su=>omega
 case pZ=>simp;omega
 case p4=>
  have aao:=trivial;exact alo
section
variable {B FB mm:Nat} {p:Option Addr} {c:Nat} {ns:List Nd} {W0:World}
theorem Oq (ht:Tree ns) (hN:ay W0 p ns) (bz:∀x∈ns,x.kids.length≤x.aP) (h0:W0.heap.size≤B) (k n:Nat) (kU:n≤k) (hn:n<ns.length) (IH:∀q,q<n→jG B FB mm p c ns W0 k q) (az:aq ns (n:Int)=3) (fn:Nat) (loop:Bool) (W:World) (s:Fs) (fY:List ey) (aB:List Nat) (v0 v1 v2 v3 v4:Value)
  (hF:bF B FB p c ns.length mm s.vars.length W s fY aB v0 v1 v2 v3 v4) (hi:cN ns.length s) (fy:eu ns s fY) (hb0:Below B W0 W) (hfn:fn<s.funcs.length) (hsz:s.vars.length+wt ns n≤100000) (lK:s.funcs.length+wt ns n≤100000) (hbl:fY.length+wt ns n≤100000) (he:s.e=0):
  Calls Tryz.prog 172 #[.pointer (some ⟨FB,0,none⟩),.int .i64 n,.int .i64 fn,.bool loop] W (A1 B FB p c ns mm aB (aJ FB mm aB v0 v1 v2 v3 v4) W fY (aA ns (k+1) n fn loop s)):=by
 have aay:=trivial;exact amq
end
theorem KM {ns:List Nd} (h:(bg ns).2=0):aq ns ((ax ns ((ns.length - 1:Nat):Int)).getD ((ax ns ((ns.length - 1:Nat):Int)).length - 1) 0)=3:=by
 obtain⟨hv,hk⟩:=zR h;have h0:=(taken h).2.1;have h1k:=uz h;obtain⟨x,hx,h1,h2,hv⟩:=ic (ow h) (n:=ns.length - 1) af;have hf:=hv.fits;rw [h1] at hk;rw [hk] at hf;rw [h2] at h1k ⊢;obtain⟨m,hm⟩:∃m,x.kids.length=m+1:=⟨x.kids.length - 1,by omega⟩;have hl:(cR ns x.kids).length=m+1:=by simp [cR,hm]
 have e:dh (Int.toNat 1)=[104,42,98]:=rfl;rw [e] at hf;unfold fJ at hf;rw [if_neg aj,hl] at hf;have c42:List.count (42:UInt8) [104,42,98]=1:=aj;rw [c42] at hf;have e3:([104,42,98]:List UInt8).length - 2*1=1:=rfl;rw [e3,if_neg af,if_neg af] at hf;have hs:m+1 - 1=m:=af;rw [hs] at hf;have hrun:∀ks:List Nat,mV m [104,42,98] ks=true→((ks.drop m).take 1).all (fun k=>pL k 98)=true:=fun ks h=>by
  have h2:mV m [104,42,98] ks=((ks.take m).all (fun k=>pL k 104) && (((ks.drop m).take 1).all (fun k=>pL k 98) && true)):=rfl;rw [h2] at h;simp only [Bool.and_eq_true] at h;exact h.2.1
 replace hf:=hrun _ hf;have ji:m<x.kids.length:=af;have hd:(cR ns x.kids).drop m=[(aq ns x.kids[m]).toNat]:=by
  rw [List.drop_eq_getElem_cons af,List.drop_eq_nil_of_le af];simp [cR]
 rw [hd] at hf;have h9:(aq ns x.kids[m]).toNat=3:=by
  have:pL (aq ns x.kids[m]).toNat 98=true:=by simpa using hf
  exact Nat.eq_of_beq_eq_true this
 have e9:x.kids.getD (x.kids.length - 1) 0=x.kids[m]:=by
  rw [show x.kids.length - 1=m by omega,aZ ji]
 rw [e9];omega
def dZ (j L:Nat):Fs:=⟨[],List.replicate j (-1)++List.replicate (L - j) 0,[-1],[-1],[],[0],0,0⟩
theorem KN {j L:Nat} (h:j<L):(dZ j L).uses.set j (-1)=(dZ (j+1) L).uses:=by
 show(List.replicate j (-1:Int)++List.replicate (L - j) 0).set j (-1)=List.replicate (j+1) (-1)++List.replicate (L - (j+1)) 0;obtain⟨m,hm⟩:∃m,L - j=m+1:=⟨L - j - 1,by omega⟩;rw [hm,show L - (j+1)=m by omega,List.replicate_succ,List.set_append_right _ _ ak];simp [List.replicate_succ']
theorem oB {j L:Nat} (h:j≤L):(dZ j L).uses.length=L:=by simp [dZ];omega
theorem A2 {fn:Func} {q:Tmp} {ty:TypeId} (h:fn.results=#[.cell q ty]) (tmps:Array Value) (P:Program) (w:World):
  (results fn tmps).run P w=((asAddr (tmps.getD q undef)).run P w).andThen fun a w₁=>(loadVar ty a).run P w₁:=by
 simp only [results,h];simp [Sem.run_bind,Result.andThen]
def anP (ns:List Nd) (w:World) (e:Ending) (w':World):Prop:=
 ((cB ns).e=0→∃v0 v1 v2 v3,e=.returned (.agg #[v0,v1,v2,v3])∧Below w.heap.size w w'∧gR w.heap.size w' (cB ns) v0 v1 v2 v3)∧
 ((cB ns).e≠0→e=.panicked (kG (cB ns).bE (cB ns).e)∧Below w.heap.size w w')
theorem J1 (p:Option Addr) (c:Nat) (ns:List Nd) (w:World) (ha:ay w p ns) (hs:Small ns) (hc:∀x∈ns,x.kids.length≤x.aP) (he:(bg ns).2=0):
  Calls Tryz.prog 121 #[.slice p ns.length c] w (anP ns w):=by
 obtain⟨iI,Ao,Ap,Aq,Ar⟩:=info_parts Tryz.rB;have yu:= @run_makeMap Tryz.prog;have kj:=hid (ow he);have OZ:=hid (uz he);have Hl3:=hid (KM he);obtain⟨_,hL1,hwt⟩:=taken he;have hL5:(ns.length:Int)≤5000:=by have:=hs.1;omega
 have HN:=hid ha;have kI:=hid hc;have Hs:=hid hs;obtain⟨L,hL⟩:∃L,L=ns.length:=⟨_,rfl⟩;rw [←hL] at hL5 ⊢;have HL:=hid hL;clear ha hc hs hL;go_enter Tryz.func121,Tryz.ntmps121;go_wp2_with (refine wpList_make_full _ rfl _ _ 26 rfl w.heap.size 3 iI (.int .i64 0) 1 Tryz.underlying26 Ao Ap Aq .i64 .i64 _ _ L rfl rfl (by go_num) (by go_num) ?_ ?_ ?_ ?_)
 ·rw [Ar];omega
 ·unfold maxLen;omega
 ·simp
 intro w1 hO hG;obtain⟨g1,hg1⟩:=tY hO hG ak;have p8:(madeCells #[Value.int .i64 0] L).toList=(List.replicate L (0:Int)).map (Value.int .i64):=by
  exact Dj
 rw [p8] at hg1;have hb1:Below w.heap.size w w1:=by rw [hg1];repeat (first|exact Below.refl _ _|refine bG ?_ _|refine bA ?_ _)
 have hr1:w1.heap[w.heap.size]?=some (.cells #[Value.slice none 0 0,Value.slice none 0 0,Value.slice none 0 0,Value.slice none 0 0] 28 (0,0)):=by
  rw [hg1];refine(dK _ _ _ bt).trans ?_;rw [(au _ _).block _ ak];exact heap_alloc_new _ _
 have hr2:w1.heap[w.heap.size+1]?=some (.cells ((List.replicate L (0:Int)).map (Value.int .i64)).toArray 3 (0,0)):=by
  rw [hg1];refine(dK _ _ _ ak).trans ?_;have:=heap_alloc_new (w.alloc (.cells #[Value.slice none 0 0,Value.slice none 0 0,Value.slice none 0 0,Value.slice none 0 0] 28)) (.cells ((List.replicate L (0:Int)).map (Value.int .i64)).toArray 3);rw [show(w.alloc (.cells #[Value.slice none 0 0,Value.slice none 0 0,Value.slice none 0 0,Value.slice none 0 0] 28)).heap.size=w.heap.size+1 by simp] at this;exact this
 have hs1:w.heap.size+2≤w1.heap.size:=by rw [hg1];simp
 have pn:=hid hb1;have Hr1:=hid hr1;have vU:=hid hr2;clear hO hG hg1 p8 hb1 hr1 hr2 Ao Ap Aq Ar;go_wp2;obtain⟨wf,OV⟩:∃wf,wf=((((w1.alloc (Obj.cells #[Value.int IntKind.i64 (-1)] 3)).alloc (Obj.cells #[Value.int IntKind.i64 (-1)] 3)).alloc (Obj.map #[] 0)).alloc (Obj.cells #[Value.slice p L c,Value.slice none 0 0,Value.slice (some {block:=w.heap.size+1,off:=0}) L L,Value.slice (some {block:=w1.heap.size,off:=0}) 1 1,Value.slice (some {block:=w1.heap.size+1,off:=0}) 1 1,Value.slice none 0 0,Value.map (some (w1.heap.size+1+1))] 189)):=⟨_,rfl⟩;rw [←OV];obtain⟨FB,IB⟩:∃FB,FB=w1.heap.size+1+1+1:=⟨_,rfl⟩;obtain⟨mm,We⟩:∃mm,mm=w1.heap.size+1+1:=⟨_,rfl⟩;rw [←IB,←We];have acd:Below w1.heap.size w1 wf:=by rw [OV];repeat (first|exact Below.refl _ _|refine bA ?_ _)
 have asZ:wf.heap.size=w1.heap.size+4:=by rw [OV];simp
 have f0:=(acd.block _ af).trans Hr1.out;have f1:=(acd.block _ af).trans vU.out;have z0:wf.heap[w1.heap.size]?=some (.cells #[Value.int IntKind.i64 (-1)] 3 (0,0)):=by
  rw [OV,(au _ _).block _ bt,(au _ _).block _ bt,(au _ _).block _ ak];exact heap_alloc_new _ _
 have z1:wf.heap[w1.heap.size+1]?=some (.cells #[Value.int IntKind.i64 (-1)] 3 (0,0)):=by
  rw [OV,(au _ _).block _ ak,(au _ _).block _ ak];have:=heap_alloc_new (w1.alloc (Obj.cells #[Value.int IntKind.i64 (-1)] 3)) (Obj.cells #[Value.int IntKind.i64 (-1)] 3);rw [show(w1.alloc (Obj.cells #[Value.int IntKind.i64 (-1)] 3)).heap.size=w1.heap.size+1 by simp] at this;exact this
 have z2:tW wf mm 0 (.map []):=by
  have h1:tW (((w1.alloc (Obj.cells #[Value.int IntKind.i64 (-1)] 3)).alloc (Obj.cells #[Value.int IntKind.i64 (-1)] 3)).alloc (Obj.map #[] 0)) mm 0 (.map []):=by
   have:=World.ownsMap_made ((w1.alloc (Obj.cells #[Value.int IntKind.i64 (-1)] 3)).alloc (Obj.cells #[Value.int IntKind.i64 (-1)] 3)) Tryz.prog 3 (plainElem (H:=Unit) Tryz.prog 3);rw [show((w1.alloc (Obj.cells #[Value.int IntKind.i64 (-1)] 3)).alloc (Obj.cells #[Value.int IntKind.i64 (-1)] 3)).heap.size=mm by rw [We];simp] at this;exact this
  rw [OV];exact h1.alloc _
 have z3:wf.heap[FB]?=some (.cells #[Value.slice p L c,Value.slice none 0 0,Value.slice (some {block:=w.heap.size+1,off:=0}) L L,Value.slice (some {block:=w1.heap.size,off:=0}) 1 1,Value.slice (some {block:=w1.heap.size+1,off:=0}) 1 1,Value.slice none 0 0,Value.map (some mm)] 189 (0,0)):=by
  have:=heap_alloc_new (((w1.alloc (Obj.cells #[Value.int IntKind.i64 (-1)] 3)).alloc (Obj.cells #[Value.int IntKind.i64 (-1)] 3)).alloc (Obj.map #[] 0)) (Obj.cells #[Value.slice p L c,Value.slice none 0 0,Value.slice (some {block:=w.heap.size+1,off:=0}) L L,Value.slice (some {block:=w1.heap.size,off:=0}) 1 1,Value.slice (some {block:=w1.heap.size+1,off:=0}) 1 1,Value.slice none 0 0,Value.map (some (w1.heap.size+1+1))] 189);rw [show(((w1.alloc (Obj.cells #[Value.int IntKind.i64 (-1)] 3)).alloc (Obj.cells #[Value.int IntKind.i64 (-1)] 3)).alloc (Obj.map #[] 0)).heap.size=FB by rw [IB];simp,←We] at this;rw [OV,←We];exact this
 have i0:Ints (w.heap.size+1) wf (.slice (some ⟨w.heap.size+1,0,none⟩) L L) (dZ 0 L).uses:=by
  refine⟨by simp [dZ],.inr ⟨w.heap.size+1,L,_,by simp [dZ],Nat.le_refl _,f1,by simp [dZ],by unfold maxLen;omega,by simp,by simp [dZ]⟩⟩
 have i1:Ints (w.heap.size+1) wf (.slice (some ⟨w1.heap.size,0,none⟩) 1 1) [-1]:=⟨rfl,.inr ⟨w1.heap.size,1,_,rfl,by omega,z0,by decide,by decide,rfl,rfl⟩⟩;have i2:Ints (w.heap.size+1) wf (.slice (some ⟨w1.heap.size+1,0,none⟩) 1 1) [-1]:=⟨rfl,.inr ⟨w1.heap.size+1,1,_,rfl,by omega,z1,by decide,by decide,rfl,rfl⟩⟩;have hF0:bF (w.heap.size+1) FB p c L mm 0 wf (dZ 0 L) [] [] (.slice none 0 0) (.slice (some ⟨w.heap.size+1,0,none⟩) L L) (.slice (some ⟨w1.heap.size,0,none⟩) 1 1) (.slice (some ⟨w1.heap.size+1,0,none⟩) 1 1) (.slice none 0 0):=by
  refine⟨by omega,z3,⟨rfl,fun i v l a b=>?_,fun i j v u Xk a b g e=>?_⟩,⟨rfl,.inl ⟨rfl,rfl⟩⟩,⟨rfl,.inl ⟨rfl,rfl⟩⟩,rfl,fun i b nm a=>by simp at a,fun b hb=>by simp at hb,List.nodup_nil,⟨0,_,z2,Nat.le_refl _,fun fn=>?_⟩,by omega,by simp⟩
  ·rcases i with _|_|_|i
   ·cases a;cases b;exact i0
   ·cases a;cases b;exact i1
   ·cases a;cases b;exact i2
   ·simp at a
  ·rcases i with _|_|_|i<;>rcases j with _|_|_|j<;>first|exact absurd rfl Xk|(simp at a;done)|(simp at b;done)|skip
   all_goals (cases a;cases b;simp [Value.ownBlock] at e ⊢;omega)
  ·rcases fn with _|fn<;>rfl
 have hb2:Below w.heap.size w wf:=pn.out.trans (acd.mono af);have Gd:=hid hF0;have pV:=hid hb2;have Hf0:=hid f0;have sg:=hF0.lt;have zj:w.heap.size+1<FB:=af;clear IB We OV acd f0 f1 z0 z1 z2 z3 i0 i1 i2 hF0 hb2 Hr1 vU pn asZ;go_loopw [22] (fun iv wr=>∃j:Nat,iv=.int .i64 j∧j≤L∧Hid (bF (w.heap.size+1) FB p c L mm 0 wr (dZ j L) [] [] (.slice none 0 0) (.slice (some ⟨w.heap.size+1,0,none⟩) L L) (.slice (some ⟨w1.heap.size,0,none⟩) 1 1) (.slice (some ⟨w1.heap.size+1,0,none⟩) 1 1) (.slice none 0 0)∧Below w.heap.size w wr∧wr.heap[w.heap.size]?=some (.cells #[Value.slice none 0 0,Value.slice none 0 0,Value.slice none 0 0,Value.slice none 0 0] 28 (0,0)))) (fun iv _=>L - (intOf iv).toNat)
 case atStart=>exact⟨0,rfl,Nat.zero_le _,hid ⟨Gd.out,pV.out,Hf0.out⟩⟩
 case round=>
  obtain⟨j,rfl,hj,hJ⟩:=hrel;obtain⟨gH,hbr,hsr⟩:=hJ.out;have X9:=hid gH;have Hbr:=hid hbr;have Hsr:=hid hsr;have hj0:(0:Int)≤(j:Int):=af;have hrs:=gH.lt;by_cases hjL:j<L
  ·have hj1:(j:Int)<(L:Int):=by omega
   have c2:wr.cell? ⟨FB,2,none⟩=some (.slice (some ⟨w.heap.size+1,0,none⟩) L L):=gH.cell 2;obtain⟨gu,cu,Al,ahM,cun,amx,Tu,Tv⟩:=ints_at (gH.rows.rows 0 _ _ rfl rfl) (show j<(dZ j L).uses.length by rw [oB hj];exact hjL);rw [oB hj] at Al;cases Al;have CI:=gH.iR (g:=w.heap.size+1) (cp:=L) (i:=j) (by rw [oB hj]) (by rw [oB hj];exact hjL) (-1);have af6:bF (w.heap.size+1) FB p c L mm 0 (wr.setCell ⟨w.heap.size+1,j,none⟩ (.int .i64 (-1))) (dZ (j+1) L) [] [] (.slice none 0 0) (.slice (some ⟨w.heap.size+1,0,none⟩) L L) (.slice (some ⟨w1.heap.size,0,none⟩) 1 1) (.slice (some ⟨w1.heap.size+1,0,none⟩) 1 1) (.slice none 0 0):=CI.congr rfl (KN hjL).symm rfl rfl rfl;have HS:=hid af6;have Hb3:=hid (hbr.setCell (p:=⟨w.heap.size+1,j,none⟩) (Nat.le_succ _) (.int .i64 (-1)));have Hs3:Hid ((wr.setCell ⟨w.heap.size+1,j,none⟩ (.int .i64 (-1))).heap[w.heap.size]?=some (.cells #[Value.slice none 0 0,Value.slice none 0 0,Value.slice none 0 0,Value.slice none 0 0] 28 (0,0))):=hid ((Below.heap_setCell _ _ _ _ (show w.heap.size≠w.heap.size+1 by omega)).trans hsr);clear CI af6 hJ gH hbr hsr;go_wp2;go_roundw
   case rel=>exact⟨j+1,by go_num,by omega,hid ⟨HS.out,Hb3.out,Hs3.out⟩⟩
   case measure=>simp [intOf];omega
  ·obtain rfl:j=L:=by omega
   obtain⟨m,hm⟩:∃m,ns.length=m+1:=⟨ns.length - 1,by omega⟩;have hjn:j=ns.length:=HL.out;have od:m<ns.length:=af;have j8:(j:Int) - 1=(m:Int):=af;have as2:(ns.length:Int) - 1=(m:Int):=af;obtain⟨b,o,hp,bO,ct,aG,_,_,k2,_⟩:=bh HN.out od;have k2r:wr.cell? ⟨b,o+m*4+2,none⟩=some (.slice ns[m].kp ns[m].kids.length ns[m].aP):=(hbr.cell (p:=⟨b,_,none⟩) bO).trans k2;have bW:ax ns (m:Int)=ns[m].kids:=iA;have hlk:=OZ.out;have hl3:=Hl3.out;rw [show ns.length - 1=m by omega,bW] at hlk hl3;obtain⟨y,hy⟩:∃y,ns[m].kids.length=y+1:=⟨ns[m].kids.length - 1,by omega⟩;have DJ:y<ns[m].kids.length:=af;obtain⟨bk,ok,eO,lg,fN⟩:=bQ aG DJ;have eA:=(hbr.cell (p:=⟨bk,_,none⟩) lg).trans fN;have fR:ns[m].kids.getD y 0=ns[m].kids[y]:=by simp [List.getD,List.getElem?_eq_getElem DJ]
   have dA:=(bH kj.out (n:=(m:Int)) af) ns[m].kids[y] (by rw [bW];exact List.getElem_mem DJ);rw [hy,show y+1 - 1=y by omega] at hl3;rw [fR] at eA hl3;obtain⟨z,hz⟩:∃z:Nat,ns[m].kids[y]=(z:Int):=⟨(ns[m].kids[y]).toNat,by omega⟩;rw [hz] at dA eA hl3;have hzl:z<ns.length:=af;have nI:1+wt ns z≤wt ns m:=by
    exact ae4
   have Wh:=hwt;rw [show ns.length - 1=m by omega] at Wh;have hst:dZ j j=⟨[],List.replicate ns.length (-1),[-1],[-1],[],[0],0,0⟩:=by unfold dZ;rw [hjn];simp
   have GU:cB ns=aA ns (m+1) (z:Int) ((0:Nat):Int) false (dZ j j):=by
    unfold cB;simp only;rw [as2,bW,hy,show y+1 - 1=y by omega,fR,hz,hst,hm];rfl
   have hinv:cN ns.length (dZ j j):=by rw [hst];exact⟨by simp,by simp,by simp,by simp,by simp,by simp,by simp⟩
   have fy:eu ns (dZ j j) []:=⟨rfl,fun x hx=>by simp at hx⟩;have hFn:bF (w.heap.size+1) FB p c ns.length mm (dZ j j).vars.length wr (dZ j j) [] [] (.slice none 0 0) (.slice (some ⟨w.heap.size+1,0,none⟩) j j) (.slice (some ⟨w1.heap.size,0,none⟩) 1 1) (.slice (some ⟨w1.heap.size+1,0,none⟩) 1 1) (.slice none 0 0):=by rw [←hjn];exact gH
   have hA:=au w (.cells #[Value.slice none 0 0,Value.slice none 0 0,Value.slice none 0 0,Value.slice none 0 0] 28);have nS:=heap_alloc_new w (.cells #[Value.slice none 0 0,Value.slice none 0 0,Value.slice none 0 0,Value.slice none 0 0] 28);have hAs:(w.alloc (.cells #[Value.slice none 0 0,Value.slice none 0 0,Value.slice none 0 0,Value.slice none 0 0] 28)).heap.size=w.heap.size+1:=ak;have hAn:=aF hA HN.out;generalize w.alloc (.cells #[Value.slice none 0 0,Value.slice none 0 0,Value.slice none 0 0,Value.slice none 0 0] 28)=wA at*;have hB0:Below (w.heap.size+1) wA wr:=⟨hbr.os.trans hA.os.symm,hbr.tape.trans hA.tape.symm,hbr.output.trans hA.output.symm,by have:=gH.lt;omega,fun k hk=>by
    by_cases hk2:k=w.heap.size
    ·rw [hk2,hsr,nS]
    ·rw [hbr.block k af,hA.block k af]⟩
   have gZ:=Oq kj.out hAn kI.out af m z af hzl (fun q hq=>Mz kj.out hAn kI.out af m q af af) hl3 0 false wr (dZ j j) [] [] _ _ _ _ _ hFn hinv fy hB0 (by simp [dZ]) (by simp [dZ];omega) (by simp [dZ];omega) bt rfl;rw [←GU] at gZ;have zk:=hid gZ;have hy9:(y:Int)≤20000:=by have:=(Hs.out.2 ns[m] (List.getElem_mem od)).1;omega
   have NS:((y+1:Nat):Int) - 1=(y:Int):=af;have y0:(0:Int)≤(y:Int):=af;have m0:(0:Int)≤(m:Int):=af;have m2:(m:Int)<(j:Int):=af;obtain⟨Y,hY⟩:∃Y,Y=y+1:=⟨_,rfl⟩;rw [eO,hy,←hY] at k2r;rw [←hY] at NS;have y2:(y:Int)<(Y:Int):=af;have hY9:(Y:Int)≤20001:=af;have fD:=X9.out;have hno:¬aJ FB mm [] (.slice none 0 0) (.slice (some ⟨w.heap.size+1,0,none⟩) j j) (.slice (some ⟨w1.heap.size,0,none⟩) 1 1) (.slice (some ⟨w1.heap.size+1,0,none⟩) 1 1) (.slice none 0 0) w.heap.size:=fun hO=>by
    have:=(hFn.dr hO).1;omega
   have Bu:=hid hno;have Hp:=hid hp;have as6:w.heap.size<wr.heap.size:=af;rw [hp];rw [hp] at zk;clear hst hinv gZ GU gH k2 bW hlk hl3 fR hz eO fN ct aG nI Wh hm DJ hy hY fD hno hFn fy hB0 hA nS hAs hAn hjn hbr hJ hp dA;go_wp2_with (go_at_call 172;refine zk.out.mono ?_);intro e w9 hE;by_cases ID:(cB ns).e=0
   ·obtain⟨rfl,q0,q1,q2,q3,q4,gH,Io,fD⟩:=hE.1 ID;have hR9:w9.heap[w.heap.size]?=some (.cells #[Value.slice none 0 0,Value.slice none 0 0,Value.slice none 0 0,Value.slice none 0 0] 28 (0,0)):=(fD.keep _ as6 Bu.out).trans hsr;have Ot:Below w.heap.size w w9:=Hbr.out.trans (fD.below.mono af);have R0:w9.cell? ⟨w.heap.size,0,none⟩=some (.slice none 0 0):=wQ;have R1:w9.cell? ⟨w.heap.size,1,none⟩=some (.slice none 0 0):=wQ;have R2:w9.cell? ⟨w.heap.size,2,none⟩=some (.slice none 0 0):=wQ;have R3:w9.cell? ⟨w.heap.size,3,none⟩=some (.slice none 0 0):=wQ;have Rf:∀k,w9.frozen? ⟨w.heap.size,k,none⟩=false:=fun k=>by simp [World.frozen?,hR9]
    have Rf0:=Rf 0;have Rf1:=Rf 1;have Rf2:=Rf 2;have Rf3:=Rf 3;have ace:=hid Ot;have Em:=hid gH;have as7:¬w.heap.size=FB:=af;have as8:¬FB=w.heap.size:=af;have d1:w9.cell? ⟨FB,1,none⟩=some q0:=gH.cell 1;have d2:w9.cell? ⟨FB,2,none⟩=some q1:=gH.cell 2;have d3:w9.cell? ⟨FB,3,none⟩=some q2:=gH.cell 3;have d4:w9.cell? ⟨FB,4,none⟩=some q3:=gH.cell 4;obtain⟨a0,b0,e0,rfl⟩:∃a n c,q0=.slice a n c:=by
     exact UW
    obtain⟨a1,b1,e1,rfl⟩:∃a n c,q1=.slice a n c:=by
     exact UO
    obtain⟨a2,b2,e2,rfl⟩:∃a n c,q2=.slice a n c:=by
     exact UQ
    obtain⟨a3,b3,e3,rfl⟩:∃a n c,q3=.slice a n c:=by
     exact UR
    have H0e:=hid ID;clear gH hR9 Ot Rf hE Io fD ID;go_wp2;refine bodyPost_ret (v:=.agg #[.slice a0 b0 e0,.slice a1 b1 e1,.slice a2 b2 e2,.slice a3 b3 e3]) (by rw [A2 rfl];simp [go_sem,R0,R1,R2,R3]) rfl ?_;have hsc:gR (w.heap.size+1) w9 (cB ns) (.slice a0 b0 e0) (.slice a1 b1 e1) (.slice a2 b2 e2) (.slice a3 b3 e3):=⟨Em.out.vars,Em.out.rows.rows 0 _ _ rfl rfl,Em.out.rows.rows 1 _ _ rfl rfl,Em.out.rows.rows 2 _ _ rfl rfl⟩;refine⟨fun _=>⟨_,_,_,_,rfl,(((ace.out.setCell (p:=⟨w.heap.size,0,none⟩) (Nat.le_refl _) _).setCell (p:=⟨w.heap.size,1,none⟩) (Nat.le_refl _) _).setCell (p:=⟨w.heap.size,2,none⟩) (Nat.le_refl _) _).setCell (p:=⟨w.heap.size,3,none⟩) (Nat.le_refl _) _, ?_⟩,fun h=>absurd H0e.out h⟩;exact UM
   ·obtain⟨rfl,fD⟩:=hE.2 ID;exact⟨rfl,fun h=>absurd h ID,fun _=>⟨rfl,Hbr.out.trans (fD.below.mono af)⟩⟩
end Go.Proofs.YtjchnliaglecoaaGreatDoor

/- A part of the proof. Conditions: none. -/
set_option maxRecDepth 100000
set_option maxHeartbeats 8000000
namespace Go.Proofs.YtjchnliaglecoaaGreatDoor
open Go Go.RowKit Go.Nodes Go.Maps Go.WideMaps Go.ChangeShapes
theorem Gf (A B C:Nat):(#[Value.pointer (some ⟨A,0,none⟩),Value.pointer (some ⟨B,0,none⟩),Value.pointer (some ⟨C,0,none⟩)]++Array.replicate (Tryz.f120.ntmps - #[Value.pointer (some ⟨A,0,none⟩),Value.pointer (some ⟨B,0,none⟩),Value.pointer (some ⟨C,0,none⟩)].size) undef)=#[.pointer (some ⟨A,0,none⟩),.pointer (some ⟨B,0,none⟩),.pointer (some ⟨C,0,none⟩),undef,undef,undef,undef,undef,undef,undef,undef,undef,undef,undef,undef,undef,undef,undef,undef,undef,undef,undef]:=by
 rw [Tryz.ntmps120];simp [Array.replicate_succ]
theorem ZC (A B C:Nat) (w:World):
  CallsD Tryz.prog 120 #[.pointer (some ⟨A,0,none⟩),.pointer (some ⟨B,0,none⟩),.pointer (some ⟨C,0,none⟩)] .returning w fun e u' w'=>e=.returned (.tuple #[])∧u'=.returning∧w'=w:=by
 refine callsD_of_wpS Tryz.func120 rfl fun c₀ cs hu=>?_
 rw [Gf];apply wpS_seq;apply wpS_region;simp [wpOpsS,go_sem,recoverD,hu,Exit.thenS];refine wpS_of_wp ?_;go_wp2;cases c₀
 simp_all [bodyPostS,results,Tryz.results120]
def j6:Array Value:=#[Value.slice none 0 0,Value.slice none 0 0,Value.slice none 0 0,Value.slice none 0 0]
def amf (D:Nat) (N E:Int):Nat→World→Value→Prop
 |0,w,v=>v=.agg #[.slice none 0 0,.slice none 0 0,.slice none 0 0,.slice none 0 0]
 |1,w,v=>v=.pointer (some ⟨D,0,none⟩)
 |2,w,v=>v=.int .i64 N
 |3,w,v=>v=.pointer (some ⟨D,1,none⟩)
 |4,w,v=>v=.int .i64 E
 |5,w,v=>True
 |6,w,v=>True
 |_,w,v=>True
def lG (B C:Nat) (n x:Int) (wq:World) (f:Nat→Bool) (_:Act) (w1:World):Prop:=w1=bif f 7 then(bif f 6 then wq.setCell ⟨B,0,none⟩ (.int .i64 n) else wq).setCell ⟨C,0,none⟩ (.int .i64 x) else(bif f 6 then wq.setCell ⟨B,0,none⟩ (.int .i64 n) else wq)
theorem lG.other {B C:Nat} {n x:Int} {wq w1:World} {f:Nat→Bool} {ca:Act} (h:lG B C n x wq f ca w1) {k:Nat} (h6:6≠k) (h7:7≠k) (kA:Act):lG B C n x wq (fun j=>if j=k then true else f j) kA w1:=by
 unfold lG at*;simp only [upd_ne h6,upd_ne h7];exact h
theorem lG.heap {B C:Nat} {n x:Int} {wq w1:World} {f:Nat→Bool} {ca:Act} (h:lG B C n x wq f ca w1) {g:Nat} (hB:g≠B) (hC:g≠C):w1.heap[g]?=wq.heap[g]?:=by
 unfold lG at h;rw [h];cases f 6<;>cases f 7<;>simp only [cond_true,cond_false]
 ·exact Below.heap_setCell _ _ _ _ hC
 ·exact Below.heap_setCell _ _ _ _ hB
 ·exact(Below.heap_setCell _ _ _ _ hC).trans (Below.heap_setCell _ _ _ _ hB)
theorem SV (A B C:Nat) (n x:Int) (Gg:List PanicEntry) (w:World) (hA:w.heap[A]?=some (.cells j6 28 (0,0))) (hB:w.heap[B]?=some (.cells #[.int .i64 0] 3 (0,0))) (hC:w.heap[C]?=some (.cells #[.int .i64 0] 46 (0,0))) (hAB:A≠B) (hAC:A≠C) (hBC:B≠C):
  CallsD Tryz.prog 120 #[.pointer (some ⟨A,0,none⟩),.pointer (some ⟨B,0,none⟩),.pointer (some ⟨C,0,none⟩)] (.panicking ({v:=.iface 153 (.agg #[.int .i64 n,.int .i64 x]),recovered:=false}::Gg)) w fun e u' w'=>
   e=.returned (.tuple #[])∧u'=.panicking ({v:=.iface 153 (.agg #[.int .i64 n,.int .i64 x]),recovered:=true}::Gg)∧∃wq,Below w.heap.size w wq∧w'=(wq.setCell ⟨B,0,none⟩ (.int .i64 n)).setCell ⟨C,0,none⟩ (.int .i64 x):=by
 have hAl:=(Array.getElem?_eq_some_iff.1 hA).1;have hBl:=(Array.getElem?_eq_some_iff.1 hB).1;have hCl:=(Array.getElem?_eq_some_iff.1 hC).1;have HA:=hid hA;have HB:=hid hB;have HC:=hid hC;clear hA hB hC;refine callsD_of_wpS Tryz.func120 rfl fun c₀ cs hu=>?_
 rw [Gf];apply wpS_seq;apply wpS_region;simp [wpOpsS,go_sem,recoverD,hu,Exit.thenS];refine wpS_of_wp ?_;have Xn:∀w,(Instr.typeAssert (.iface 153 (.agg #[.int .i64 n,.int .i64 x])) 20 153 true).run Tryz.prog w=.ok (.tuple #[.agg #[.int .i64 n,.int .i64 x],.bool true]) w:=fun _=>by rfl
 go_wp2;obtain⟨wz,nI⟩:∃wz,wz=w.alloc (Obj.cells #[Value.int IntKind.i64 n,Value.int IntKind.i64 x] 153):=⟨_,rfl⟩;obtain⟨D,hD⟩:∃D,D=w.heap.size:=⟨_,rfl⟩;rw [←nI,←hD];have Bx:Below w.heap.size w wz:=by rw [nI];exact au _ _
 have HzA:=hid ((Bx.block A hAl).trans HA.out);have HzB:=hid ((Bx.block B hBl).trans HB.out);have HzC:=hid ((Bx.block C hCl).trans HC.out);have HzD:Hid (wz.heap[D]?=some (.cells #[.int .i64 n,.int .i64 x] 153 (0,0))):=hid (by rw [nI,hD];exact heap_alloc_new _ _);have hDB:D≠B:=af;have hDC:D≠C:=af;have hBq:∀f ca w1,lG B C n x wz.drew f ca w1→∃y,w1.heap[B]?=some (.cells #[y] 3 (0,0)):=fun f ca w1 h=>by
  unfold lG at h;rw [h];cases f 6<;>cases f 7<;>simp only [cond_true,cond_false]
  ·exact⟨_,HzB.out⟩
  ·exact⟨_,(Below.heap_setCell _ _ _ _ hBC).trans HzB.out⟩
  ·exact⟨_,(cq (w:=wz.drew) HzB.out 0 _).trans rfl⟩
  ·exact⟨_,(Below.heap_setCell _ _ _ _ hBC).trans ((cq (w:=wz.drew) HzB.out 0 _).trans rfl)⟩
 have hCq:∀f ca w1,lG B C n x wz.drew f ca w1→∃y,w1.heap[C]?=some (.cells #[y] 46 (0,0)):=fun f ca w1 h=>by
  unfold lG at h;rw [h];have hC1:(wz.drew.setCell ⟨B,0,none⟩ (.int .i64 n)).heap[C]?=some (.cells #[.int .i64 0] 46 (0,0)):=(Below.heap_setCell _ _ _ _ (fun e=>hBC e.symm)).trans HzC.out;cases f 6<;>cases f 7<;>simp only [cond_true,cond_false]
  ·exact⟨_,HzC.out⟩
  ·exact⟨_,(cq (w:=wz.drew) HzC.out 0 _).trans rfl⟩
  ·exact⟨_,hC1⟩
  ·exact⟨_,(cq hC1 0 _).trans rfl⟩
 have hBc:∀f ca w1,lG B C n x wz.drew f ca w1→∃y,w1.cell? ⟨B,0,none⟩=some y:=fun f ca w1 h=>by
  obtain⟨y,hy⟩:=hBq f ca w1 h;exact⟨y,by simp [World.cell?,hy]⟩
 have hBf:∀f ca w1,lG B C n x wz.drew f ca w1→w1.frozen? ⟨B,0,none⟩=false:=fun f ca w1 h=>by
  obtain⟨y,hy⟩:=hBq f ca w1 h;simp [World.frozen?,hy]
 have hCc:∀f ca w1,lG B C n x wz.drew f ca w1→∃y,w1.cell? ⟨C,0,none⟩=some y:=fun f ca w1 h=>by
  obtain⟨y,hy⟩:=hCq f ca w1 h;exact⟨y,by simp [World.cell?,hy]⟩
 have hCf:∀f ca w1,lG B C n x wz.drew f ca w1→w1.frozen? ⟨C,0,none⟩=false:=fun f ca w1 h=>by
  obtain⟨y,hy⟩:=hCq f ca w1 h;simp [World.frozen?,hy]
 have hI6:∀f ca w1,lG B C n x wz.drew f ca w1→f 6=false→f 7=false→lG B C n x wz.drew (fun j=>if j=6 then true else f j) (ca.put none undef) (w1.setCell ⟨B,0,none⟩ (.int .i64 n)):=fun f ca w1 h h6 h7=>by
  unfold lG at*;rw [h6,h7] at h;simp only [upd_ne (show(7:Nat)≠6 by decide),h7,if_true,cond_true,cond_false] at h ⊢;rw [h];rfl
 have hI7:∀f ca w1,lG B C n x wz.drew f ca w1→f 7=false→lG B C n x wz.drew (fun j=>if j=7 then true else f j) (ca.put none undef) (w1.setCell ⟨C,0,none⟩ (.int .i64 x)):=fun f ca w1 h h7=>by
  unfold lG at*;rw [h7] at h;simp only [upd_ne (show(6:Nat)≠7 by decide),if_true,cond_true,cond_false] at h ⊢;rw [h]
 have Hwb:=hid Bx;clear Bx nI HA HB HC;refine wp_region_any ai ?_;refine Am.eT (Φ:=amf D n x) (I:=lG B C n x wz.drew) (S:=fun _ _ _=>True) ai ai (fun _ _=>false) (fun z=>by unfold Am.mj;exact List.all_eq_true.2 fun _ _=>rfl) (fun i j w w' v _ _ _ h=>by unfold amf at*;split at h<;>exact h) ?_ ?_ _ rfl
 ·intro kq o ca w1 f ho hI NG NH ah K hK;have hAq:w1.heap[A]?=some (.cells j6 28 (0,0)):=(hI.heap hAB hAC).trans HzA.out;have hDq:w1.heap[D]?=some (.cells #[.int .i64 n,.int .i64 x] 153 (0,0)):=(hI.heap hDB hDC).trans HzD.out;have hR0:w1.cell? ⟨A,0,none⟩=some (.slice none 0 0):=LQ;have jX:w1.cell? ⟨A,1,none⟩=some (.slice none 0 0):=LQ;have qZ:w1.cell? ⟨A,2,none⟩=some (.slice none 0 0):=LQ;have hR3:w1.cell? ⟨A,3,none⟩=some (.slice none 0 0):=LQ;have hRf:∀k,w1.frozen? ⟨A,k,none⟩=false:=fun k=>by simp [World.frozen?,hAq]
  have hS0:w1.setCell ⟨A,0,none⟩ (.slice none 0 0)=w1:=eN hAq rfl;have hS1:w1.setCell ⟨A,1,none⟩ (.slice none 0 0)=w1:=eN hAq rfl;have JQ:w1.setCell ⟨A,2,none⟩ (.slice none 0 0)=w1:=eN hAq rfl;have hS3:w1.setCell ⟨A,3,none⟩ (.slice none 0 0)=w1:=eN hAq rfl;have hd0:w1.cell? ⟨D,0,none⟩=some (.int .i64 n):=by simp [World.cell?,hDq]
  have XK:w1.cell? ⟨D,1,none⟩=some (.int .i64 x):=by simp [World.cell?,hDq]
  have hfn:∀f,ca.eval (.func f)=.func (.func f) #[] #[]:=fun _=>rfl
  have hcs:∀v,ca.eval (.const v)=v:=fun _=>rfl
  rcases kq with _|_|_|_|_|_|_|_|kq
  ·cases ho;refine Am.rv rfl rfl (hK _ _ (hI.other aj aj _) trivial rfl) ?_;exact zi
  ·exact SX
  ·cases ho;have aQ:=Am.lk 18 1 ah fun _=>rfl
   refine Am.rv rfl rfl (hK _ _ (hI.other aj aj _) trivial rfl) ?_;generalize ca.eval=ev at*;simp [go_sem,execOp,hfn,hcs,aQ,hd0]
  ·exact SX
  ·cases ho;have aQ:=Am.lk 20 3 ah fun _=>rfl
   refine Am.rv rfl rfl (hK _ _ (hI.other aj aj _) trivial rfl) ?_;generalize ca.eval=ev at*;simp [go_sem,execOp,hfn,hcs,aQ,XK]
  ·cases ho;have aQ:=Am.lo 0 ah rfl;have nV:=Am.lk 17 0 ah fun _=>rfl
   refine Am.aD rfl rfl (wp_skip (w':=w1) ?_ (hK undef _ (hI.other aj aj _) trivial trivial));exact SY
  ·cases ho;have aQ:=Am.lo 1 ah rfl;have nV:=Am.lk 19 2 ah fun _=>rfl
   have hf7:f 7=false:=NH 7 ai;obtain⟨y1,NS⟩:∃y,w1.cell? ⟨B,0,none⟩=some y:=hBc _ _ _ hI;refine Am.aD rfl rfl (wp_skip (w':=w1.setCell ⟨B,0,none⟩ (.int .i64 n)) ?_ (hK undef _ (hI6 _ _ _ hI NG hf7) trivial trivial));have hfz:=hBf _ _ _ hI;generalize ca.eval=ev at*;simp [go_sem,execOp,hfn,hcs,aQ,nV,NS,hfz]
  ·cases ho;have aQ:=Am.lo 2 ah rfl;have nV:=Am.lk 21 4 ah fun _=>rfl
   obtain⟨y1,NS⟩:∃y,w1.cell? ⟨C,0,none⟩=some y:=hCc _ _ _ hI;refine Am.aD rfl rfl (wp_skip (w':=w1.setCell ⟨C,0,none⟩ (.int .i64 x)) ?_ (hK undef _ (hI7 _ _ _ hI NG) trivial trivial));have hfz:=hCf _ _ _ hI;generalize ca.eval=ev at*;simp [go_sem,execOp,hfn,hcs,aQ,nV,NS,hfz]
  ·simp at ho
 ·intro ca w5 f hI hall hd hs aT bp;have QI:=hI;unfold lG at QI;rw [hall 6 aj,hall 7 aj] at QI;simp only [cond_true] at QI;have bf:=Am.bC hd hs bp;simp only [List.foldl_cons,List.foldl_nil] at bf;obtain⟨yf,jL⟩:∃y:Nat→Value,∀t,ca.tmps.getD t undef=y t:=⟨_,fun _=>rfl⟩;simp only [jL] at bf;clear jL;subst bf;clear hI hall hd hs aT bp hBq hCq hBc hBf hCc hCf hI6 hI7;rename_i Q9;simp only [Q9];cases c₀;have Ay:=hid (show ∃wq,Below w.heap.size w wq∧w5=(wq.setCell ⟨B,0,none⟩ (.int .i64 n)).setCell ⟨C,0,none⟩ (.int .i64 x) from⟨wz.drew,Hwb.out.drew,QI⟩);clear QI Xn Hwb HzA HzB HzC HzD;simp [bodyPostS,results,Tryz.results120];exact Ay.out
theorem M9 (w:World) (p:Option Addr) (c:Nat) (ns:List Nd) (hs:Small ns) (hc:gS ns) (ha:ay w p ns) (hl0:bZ w):
  Calls Tryz.prog 71 #[.slice p ns.length c] w (iO ns w):=by
 have hmf:∀(fn:Fn) (first cap:Array Value) (w:World),(Instr.makeFunc fn first cap).run Tryz.prog w=.ok (.func fn first cap) w:=fun _ _ _ _=>rfl
 obtain⟨w3,hw3⟩:∃w3,w3=((w.alloc (.cells j6 28)).alloc (.cells #[.int .i64 0] 3)).alloc (.cells #[.int .i64 0] 46):=⟨_,rfl⟩;have hb3:Below w.heap.size w w3:=by rw [hw3];repeat (first|exact Below.refl _ _|refine bA ?_ _)
 have ZE:Hid (Calls Tryz.prog 42 #[.slice p ns.length c] w3 (tX (bg ns).1 (bg ns).2 w3)):=hid (NT w3 p c ns hs hc (aF hb3 ha) (hl0.later hb3));unfold j6 at hw3;unfold tX at ZE;by_cases he:(bg ns).2=0
 ·have Hb3:=hid hb3;have HA:=hid (aF hb3 ha);have Hs:=hid hs;have Hc:=hid hc;have ZF:=hid he;have F8:=hid (show ∀x∈ns,x.kids.length≤x.aP from hc);have Hw3:=hid hw3;have hs3:w3.heap.size=w.heap.size+1+1+1:=by rw [hw3];simp
  rw [he] at ZE;clear hb3 he ha hs hc hs3;have hpr:=ZF.out;generalize (bg ns).1=a at*;clear hpr;go_enter_defers Tryz.func71,Tryz.ntmps71;go_wp2_with (first
   |(go_at_call 42;rw [←hw3];refine ZE.out.mono ?_;rintro e w' ⟨rfl,hb⟩;obtain⟨g,rfl⟩:=aC hb;clear hb hw3)
   |(go_at_call 121;refine(J1 p c ns _ (aF (below_grow w3 g) HA.out) Hs.out F8.out ZF.out).mono ?_))
  intro e w9 hE;have hg3:=below_grow w3 g;have r0:(grow w3 g).heap[w.heap.size]?=some (.cells j6 28 (0,0)):=by
   rw [hg3.block _ (by rw [Hw3.out];simp;omega),Hw3.out,(au _ _).block _ bt,(au _ _).block _ ak];exact heap_alloc_new _ _
  have r1:(grow w3 g).heap[w.heap.size+1]?=some (.cells #[.int .i64 0] 3 (0,0)):=by
   rw [hg3.block _ (by rw [Hw3.out];simp),Hw3.out,(au _ _).block _ ak];have:=heap_alloc_new (w.alloc (.cells j6 28)) (.cells #[.int .i64 0] 3);rw [show(w.alloc (.cells j6 28)).heap.size=w.heap.size+1 by simp] at this;exact this
  have r2:(grow w3 g).heap[w.heap.size+1+1]?=some (.cells #[.int .i64 0] 46 (0,0)):=by
   rw [hg3.block _ (by rw [Hw3.out];simp),Hw3.out];have:=heap_alloc_new ((w.alloc (.cells j6 28)).alloc (.cells #[.int .i64 0] 3)) (.cells #[.int .i64 0] 46);rw [show((w.alloc (.cells j6 28)).alloc (.cells #[.int .i64 0] 3)).heap.size=w.heap.size+1+1 by simp] at this;exact this
  have hgs:w.heap.size+3≤(grow w3 g).heap.size:=by rw [size_grow,Hw3.out];simp
  have hbg:Below w.heap.size w (grow w3 g):=Hb3.out.trans (hg3.mono (by rw [Hw3.out];simp;omega));generalize grow w3 g=wc at*;by_cases ID:(cB ns).e=0
  ·have hout:cy ns=(cB ns,0,0):=by unfold cy;rw [if_neg (by rw [ZF.out];decide),if_neg (by rw [ID];decide)]
   obtain⟨v0,v1,v2,v3,rfl,gA,hsc⟩:=hE.1 ID;have s0:=(gA.block (w.heap.size) af).trans r0;have s1:=(gA.block (w.heap.size+1) af).trans r1;have s2:=(gA.block (w.heap.size+1+1) af).trans r2;have R0:w9.cell? ⟨w.heap.size,0,none⟩=some (.slice none 0 0):=LU;have R1:w9.cell? ⟨w.heap.size,1,none⟩=some (.slice none 0 0):=LU;have R2:w9.cell? ⟨w.heap.size,2,none⟩=some (.slice none 0 0):=LU;have R3:w9.cell? ⟨w.heap.size,3,none⟩=some (.slice none 0 0):=LU;have R4:w9.cell? ⟨w.heap.size+1,0,none⟩=some (.int .i64 0):=by simp [World.cell?,s1]
   have R5:w9.cell? ⟨w.heap.size+1+1,0,none⟩=some (.int .i64 0):=by simp [World.cell?,s2]
   have Rf0:∀k,w9.frozen? ⟨w.heap.size,k,none⟩=false:=fun k=>by simp [World.frozen?,s0]
   have Rf1:w9.frozen? ⟨w.heap.size+1,0,none⟩=false:=by simp [World.frozen?,s1]
   have Rf2:w9.frozen? ⟨w.heap.size+1+1,0,none⟩=false:=by simp [World.frozen?,s2]
   obtain⟨a0,b0,e0,rfl⟩:∃a n c,v0=.slice a n c:=by
    rcases hsc.vars.2 with⟨e1,_⟩|⟨g,cap,cur,e1,_⟩
    ·exact⟨_,_,_,e1⟩
    ·exact⟨_,_,_,e1⟩
   obtain⟨a1,b1,e1,rfl⟩:∃a n c,v1=.slice a n c:=by
    obtain⟨x1,x2,x3,_⟩:=jO hsc.uses (Nat.le_refl _);exact⟨_,_,_,x3⟩
   obtain⟨a2,b2,e2,rfl⟩:∃a n c,v2=.slice a n c:=by
    obtain⟨x1,x2,x3,_⟩:=jO hsc.funcs (Nat.le_refl _);exact⟨_,_,_,x3⟩
   obtain⟨a3,b3,e3,rfl⟩:∃a n c,v3=.slice a n c:=by
    obtain⟨x1,x2,x3,_⟩:=jO hsc.cF (Nat.le_refl _);exact⟨_,_,_,x3⟩
   have DO:=hid hout;have Hbg:=hid hbg;have Hgs:=hid hgs;have Nb:=hid hsc;have mM:=hid gA;clear hE hout hbg hgs hsc gA s0 s1 s2 r0 r1 r2 hg3 ID;go_wp2;refine leaves_cons (f:=120) (args:=#[.pointer (some ⟨w.heap.size,0,none⟩),.pointer (some ⟨w.heap.size+1,0,none⟩),.pointer (some ⟨w.heap.size+1+1,0,none⟩)]) ak (by simp [go_sem]) ?_;refine(ZC _ _ _ _).mono ?_;rintro e u' w'' ⟨rfl,rfl,rfl⟩;simp [Leaves,settle,results,Tryz.results71,go_sem,R0,R1,R2,R3,R4,R5,Rf0,Rf1,Rf2];unfold iO;rw [DO.out];refine⟨_,_,_,_,rfl, ?_, ?_⟩
   ·have h9:=Hbg.out.trans (mM.out.mono (by have:=Hgs.out;omega));exact(((((h9.setCell (p:=⟨w.heap.size,0,none⟩) (Nat.le_refl _) _).setCell (p:=⟨w.heap.size,1,none⟩) (Nat.le_refl _) _).setCell (p:=⟨w.heap.size,2,none⟩) (Nat.le_refl _) _).setCell (p:=⟨w.heap.size,3,none⟩) (Nat.le_refl _) _).setCell (p:=⟨w.heap.size+1,0,none⟩) (Nat.le_succ _) _).setCell (p:=⟨w.heap.size+1+1,0,none⟩) (show w.heap.size≤w.heap.size+1+1 by omega) _
   ·have hg:=Hgs.out;exact((((((Nb.out.set af 0 _).set af 1 _).set af 2 _).set af 3 _).set af 0 _).set af 0 _).mono af
  ·have hout:cy ns=(sO,(cB ns).bE,(cB ns).e):=by unfold cy;rw [if_neg (by rw [ZF.out];decide),if_pos ID]
   obtain⟨rfl,gA⟩:=hE.2 ID;have s0:=(gA.block (w.heap.size) af).trans r0;have s1:=(gA.block (w.heap.size+1) af).trans r1;have s2:=(gA.block (w.heap.size+1+1) af).trans r2;have DO:=hid hout;have Hb:=hid (hbg.trans (gA.mono af));refine leaves_cons (f:=120) (args:=#[.pointer (some ⟨w.heap.size,0,none⟩),.pointer (some ⟨w.heap.size+1,0,none⟩),.pointer (some ⟨w.heap.size+1+1,0,none⟩)]) ak (by simp [go_sem]) ?_;refine(SV _ _ _ (cB ns).bE (cB ns).e [] w9 s0 s1 s2 af af af).mono ?_;rintro e u' w'' ⟨rfl,rfl,wq,NU,rfl⟩;have hw9:w.heap.size+3≤w9.heap.size:=Nat.le_trans hgs gA.size;have t0:=(NU.block _ af).trans s0;have t1:=(NU.block _ af).trans s1;have t2:=(NU.block _ af).trans s2;have R0:wq.cell? ⟨w.heap.size,0,none⟩=some (.slice none 0 0):=LV;have R1:wq.cell? ⟨w.heap.size,1,none⟩=some (.slice none 0 0):=LV;have R2:wq.cell? ⟨w.heap.size,2,none⟩=some (.slice none 0 0):=LV;have R3:wq.cell? ⟨w.heap.size,3,none⟩=some (.slice none 0 0):=LV;have R4:wq.cell? ⟨w.heap.size+1,0,none⟩=some (.int .i64 0):=by simp [World.cell?,t1]
   have R5:wq.cell? ⟨w.heap.size+1+1,0,none⟩=some (.int .i64 0):=by simp [World.cell?,t2]
   have Hbq:=hid (Hb.out.trans (NU.mono af));clear hE hout s0 s1 s2 r0 r1 r2 t0 t1 t2 hg3 ID NU hbg hgs gA;simp [Leaves,settle,results,Tryz.results71,go_sem,R0,R1,R2,R3,R4,R5];unfold iO;rw [DO.out];exact⟨_,_,_,_,rfl,(Hbq.out.setCell (p:=⟨w.heap.size+1,0,none⟩) (Nat.le_succ _) _).setCell (p:=⟨w.heap.size+1+1,0,none⟩) (show w.heap.size≤w.heap.size+1+1 by omega) _,mo _ _⟩
 ·have hout:cy ns=(sO,(bg ns).1,(bg ns).2):=by unfold cy;rw [if_pos he]
  have DO:=hid hout;have Hb3:=hid hb3;have ZF:=hid he;clear hout hb3 he;generalize (bg ns).1=a at*;generalize (bg ns).2=e0 at*;have he:=ZF.out;go_enter_defers Tryz.func71,Tryz.ntmps71;go_wp2_with (go_at_call 42;rw [←hw3];refine ZE.out.mono ?_;rintro e w' ⟨rfl,hb⟩;obtain⟨g,rfl⟩:=aC hb;clear hb;rw [hw3]);simp [bodyPostD,Leaves,settle,results,Tryz.results71,go_sem];unfold iO;rw [DO.out];exact⟨_,_,_,_,rfl,tM,mo _ _⟩
end Go.Proofs.YtjchnliaglecoaaGreatDoor

/- A part of the proof. Conditions: none. -/
set_option maxRecDepth 100000
set_option maxHeartbeats 8000000
namespace Go.Proofs.YtjchnliaglecoaaGreatDoor
open Go Go.RowKit Go.Nodes
def jb (s:Fs):Prop:=∀u∈s.uses,-1≤u∧u<s.vars.length
theorem jb.same {s s':Fs} (h:jb s) (h1:s'.uses=s.uses) (h2:s'.vars.length=s.vars.length):jb s':=fun u hu=>by rw [h1] at hu;rw [h2];exact h u hu
theorem ng {s:Fs} (h:jb s) (n e:Int):jb (bB s n e):=h.same (eR s n e).2.1 (by rw [(eR s n e).1])
theorem PY {s:Fs} (h:jb s) (n fn:Int):jb (kD s n fn):=fun u hu=>by
 have hl:(kD s n fn).vars.length=s.vars.length+1:=by simp [kD]
 rw [hl];rcases List.mem_or_eq_of_mem_set hu with hu|hu
 ·have:=h u hu;omega
 ·subst hu;omega
theorem yw {s:Fs} (h:jb s) (ns:List Nd) (n fn:Int):jb (cY ns s n fn):=by
 unfold cY;simp only;refine PY ?_ n fn;have h1:jb (if 0≤bn (dS ns n) then bB s n 110 else s):=by
  split
  ·exact ng h _ _
  ·exact h
 generalize (if 0≤bn (dS ns n) then bB s n 110 else s)=t at*;have h2:jb (bY t fn):=h1.same rfl rfl;split
 ·exact ng h2 _ _
 ·exact h2
theorem M3 {s:Fs} (h:jb s) {v:Int} (hv:0≤v∧v<s.vars.length) (n fn:Int) (set:Bool):jb (bT s n v fn set):=fun u hu=>by
 have hl:(bT s n v fn set).vars.length=s.vars.length:=by simp [bT]
 rw [hl];rcases List.mem_or_eq_of_mem_set hu with hu|hu
 ·exact h u hu
 ·subst hu;omega
theorem E8 {L:Nat} {s:Fs} (hi:cN L s) (h:jb s) (ns:List Nd) (n fn:Int) (set:Bool):jb (jq ns s n fn set):=by
 unfold jq;split
 ·rename_i v hv;exact M3 h (hi.seen v (by have:=List.mem_of_find?_eq_some hv;simpa using this)) _ _ _
 ·exact ng h _ _
theorem yx (ns:List Nd) (k:Int):∀(pre:List Int) {s:Fs},jb s→jb (pre.foldl (fun s m=>if dS ns k==dS ns m then bB s k 110 else s) s)
 |[],s,h=>h
 |m::pre,s,h=>by
  rw [List.foldl_cons];refine yx ns k pre ?_;split
  ·exact ng h _ _
  ·exact h
theorem vX (ns:List Nd) (fn:Int):∀(ks pre:List Int) {s:Fs},jb s→jb (cg ns fn pre ks s)
 |[],_,s,h=>h
 |k::ks,pre,s,h=>vX ns fn ks (pre++[k]) (yw (yx ns k pre h) ns k fn)
theorem Bt {ns:List Nd} (ht:Tree ns):∀(k n:Nat) (fn:Int) (loop:Bool) (s:Fs),n<k→n<ns.length→cN ns.length s→jb s→jb (aA ns k n fn loop s)
 |0,n,_,_,_,h,_,_,_=>absurd h af
 |k+1,n,fn,loop,s,kU,hn,h,hu=>by
  have ih:∀(q:Int) (fn:Int) (loop:Bool) (s:Fs),cN ns.length s→jb s→0≤q→q<n→jb (aA ns k q fn loop s):=fun q fn loop s hs hu h0 h1=>by
   obtain⟨m,rfl⟩:∃m:Nat,q=m:=⟨q.toNat,by omega⟩;exact Bt ht k m fn loop s af af hs hu
  have ig:∀(q:Int) (fn:Int) (loop:Bool) (s:Fs),cN ns.length s→0≤q→q<n→cN ns.length (aA ns k q fn loop s):=fun q fn loop s hs h0 h1=>by
   obtain⟨m,rfl⟩:∃m:Nat,q=m:=⟨q.toNat,by omega⟩;exact(eI ht k m fn loop s af af hs).inv
  have hk:=bH ht (n:=(n:Int)) af;rw [dM];split
  ·exact hu
  split
  ·exact E8 h hu ns n fn false
  split
  ·split
   ·exact hu
   ·exact ng hu _ _
  split
  ·rename_i agy;have h2:=eC ht hn agy ak;unfold j9;simp only;generalize ax ns (n:Int)=kids at*;have hl:kids.length - 1<kids.length:=af;have hq:=hk _ (List.getElem_mem hl);have g1:=n7 h (n:Int) fn;have g2:=lU ns (s.funcs.length:Int) (kids.take (kids.length - 2)) [] g1.inv (fun q hq=>by have:=hk q (List.mem_of_mem_take hq);omega);have u1:jb (dV s n fn):=hu.same rfl rfl;have u2:=vX ns (s.funcs.length:Int) (kids.take (kids.length - 2)) [] u1;rw [aZ hl];exact(ih _ s.funcs.length false _ g2.inv u2 hq.1 hq.2).same rfl rfl
  split
  ·rename_i hk4;have h2:=eC ht hn hk4 ak;generalize ax ns (n:Int)=kids at*;have rY:1<kids.length:=af;have hq:=hk _ (List.getElem_mem rY);rw [aZ rY];have g1:=ih _ fn loop s h hu hq.1 hq.2;split
   ·exact yw g1 ns n fn
   ·exact g1
  split
  ·rename_i hk5;have h2:=tI ht hn hk5;generalize ax ns (n:Int)=kids at*;have rY:0<kids.length:=af;have hq:=hk _ (List.getElem_mem rY);rw [aZ rY];exact ih _ fn loop _ (jI h ns n fn af).inv (yw hu ns n fn) hq.1 hq.2
  split
  ·rename_i hk6;have h2:=eC ht hn hk6 ak;generalize ax ns (n:Int)=kids at*;have rY:1<kids.length:=af;have h0l:0<kids.length:=af;have hq:=hk _ (List.getElem_mem rY);have yz:=hk _ (List.getElem_mem h0l);rw [aZ rY,aZ h0l];split
   ·exact ih _ fn loop _ (tJ h ns _ fn true 0).inv (E8 h hu ns _ fn true) hq.1 hq.2
   ·exact ih _ fn loop _ (ig _ fn loop s h yz.1 yz.2) (ih _ fn loop s h hu yz.1 yz.2) hq.1 hq.2
  split
  ·rename_i hk9;have h2:=eC ht hn hk9 ak;generalize ax ns (n:Int)=kids at*;have rY:1<kids.length:=af;have h0l:0<kids.length:=af;have hq:=hk _ (List.getElem_mem rY);have yz:=hk _ (List.getElem_mem h0l);rw [aZ rY,aZ h0l];exact ih _ fn true _ (ig _ fn loop s h yz.1 yz.2) (ih _ fn loop s h hu yz.1 yz.2) hq.1 hq.2
  ·generalize ax ns (n:Int)=kids at*;have g:∀(l:List Int),(∀q∈l,0≤q∧q<(n:Int))→∀{s:Fs},cN ns.length s→jb s→jb (l.foldl (fun s q=>aA ns k q fn loop s) s):=by
    intro l
    induction l with
    |nil=>intro _ s hs hu;exact hu
    |cons q l ihl=>
     intro hl s hs hu;rw [List.foldl_cons];exact ihl (fun r hr=>hl r (by simp [hr])) (ig q fn loop s hs (hl q ak).1 (hl q ak).2) (ih q fn loop s hs hu (hl q ak).1 (hl q ak).2)
   have g1:=g kids hk h hu;split
   ·exact g1.same rfl rfl
   ·exact g1
theorem E9 {ns:List Nd} (he:(bg ns).2=0):cN ns.length (cB ns)∧jb (cB ns):=by
 have PZ:=trivial;exact acU
def setAt (vs:List Vr) (u:Int):Bool:=match vs[u.toNat]? with
 |some x=>x.set
 |none=>false
def fL (ns:List Nd) (vs:List Vr) (us:List Int) (n:Int):Int:=
 if aq ns n≠17 then -1 else if us.getD n.toNat 0<0 then -1 else if setAt vs (us.getD n.toNat 0) then -1 else us.getD n.toNat 0
def cZ:List (List UInt8):=[[110,105,108],[98,111,111,108],[105,110,116],[115,116,114,105,110,103],[116,97,98,108,101],[102,117,110,99,116,105,111,110],[116,104,114,101,97,100]]
def gD (t:List UInt8):Int:=if t=cZ.getD 0 [] then 1 else if t=cZ.getD 1 [] then 2 else if t=cZ.getD 2 [] then 4 else if t=cZ.getD 3 [] then 8 else if t=cZ.getD 4 [] then 16 else if t=cZ.getD 5 [] then 32 else if t=cZ.getD 6 [] then 64 else 0
theorem P0 (t:List UInt8):gD t=0∨gD t=1∨gD t=2∨gD t=4∨gD t=8∨gD t=16∨gD t=32∨gD t=64:=by
 unfold gD
 repeat' split
 all_goals simp
def oJ:List UInt8:=[116,121,112,101]
def XQ:List UInt8:=[110,111,116]
def XR:List UInt8:=[61,61]
def neW:List UInt8:=[126,61]
def n9 (ns:List Nd) (n:Int):Int:=(ax ns n).getD 0 0
def uU (ns:List Nd) (n:Int):Int:=(ax ns n).getD 1 0
def dN (ns:List Nd) (vs:List Vr) (us:List Int) (a b:Int):Int × Int:=
 if 0≤fL ns vs us a∧aq ns b=13 then(fL ns vs us a,1)
 else if(aq ns a=21∧dS ns a=oJ)∧aq ns b=16 then(if gD (dS ns b)≠0 then(fL ns vs us (n9 ns a),gD (dS ns b)) else(-1,0))
 else(-1,0)
def eqP (ns:List Nd) (vs:List Vr) (us:List Int) (a b:Int):Int × Int:=if(dN ns vs us a b).1<0 then dN ns vs us b a else dN ns vs us a b
def aW (ns:List Nd) (vs:List Vr) (us:List Int):Nat→Int→Bool→List (Int × Int)
 |0,_,_=>[]
 |k+1,n,yes=>
  if aq ns n=17 then(if fL ns vs us n<0 then [] else [(fL ns vs us n,if yes then 126 else 3)])
  else if aq ns n=28 then(if dS ns n=XQ then aW ns vs us k (n9 ns n) (!yes) else [])
  else if aq ns n=29 then(if yes then aW ns vs us k (n9 ns n) yes++aW ns vs us k (uU ns n) yes else [])
  else if aq ns n=30 then(if yes then [] else aW ns vs us k (n9 ns n) yes++aW ns vs us k (uU ns n) yes)
  else if aq ns n=27 then(if dS ns n≠XR∧dS ns n≠neW then [] else
   if(eqP ns vs us (n9 ns n) (uU ns n)).1<0 then [] else [((eqP ns vs us (n9 ns n) (uU ns n)).1,if(decide (dS ns n=XR)) !=yes then 127 - (eqP ns vs us (n9 ns n) (uU ns n)).2 else(eqP ns vs us (n9 ns n) (uU ns n)).2)])
  else []
end Go.Proofs.YtjchnliaglecoaaGreatDoor
