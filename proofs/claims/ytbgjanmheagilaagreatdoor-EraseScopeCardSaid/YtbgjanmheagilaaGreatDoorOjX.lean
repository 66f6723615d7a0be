/- A part of the proof. Conditions: none. -/
import Derived.Test.YtbgjanmheagilaaGreatDoorZz
import Derived.Test.YtbgjanmheagilaaGreatDoorOuX
import Derived.Test.YtbgjanmheagilaaGreatDoorLs
import Derived.Test.YtbgjanmheagilaaGreatDoorFgX
import Derived.Test.YtbgjanmheagilaaGreatDoorFr
import Derived.Test.YtbgjanmheagilaaGreatDoorAw14X
set_option linter.unusedVariables false
set_option linter.unusedSimpArgs false
set_option maxRecDepth 100000
set_option maxHeartbeats 8000000
namespace Go.Proofs.YtbgjanmheagilaaGreatDoor
open Go Go.RowKit Go.Nodes
theorem OG {B:Nat} {W:World} {p:Option Addr} {n c:Nat} {l:List Int} (h:Ints B W (.slice p n c) l):n≤c:=by
 rcases h.2 with⟨e,_⟩|⟨g,cap,cur,e,_,_,h1,_⟩
 ·cases e;exact Nat.le_refl _
 ·cases e;exact h1
theorem Jd {d:Bool} {ns os:List Nd} (hs:Small ns) (hC:Cut d ns os):Small os:=by
 have hl:os.length≤ns.length:=by
  rw [hC.len];have:∀j,gA d ns j≤j:=fun j=>by
   induction j with
   |zero=>exact Nat.le_refl _
   |succ j ih=>rw [iH];split<;>omega
  exact this _
 refine⟨Nat.le_trans hl hs.1,fun y hy=>?_⟩;obtain⟨m,hm,rfl⟩:=List.getElem_of_mem hy;obtain⟨n,x,hx,_,_,hc⟩:=hC.src (List.getElem?_eq_getElem hm);have hsx:=hs.2 x (List.mem_of_getElem? hx);rcases hc with⟨_,_,e1,e2,_⟩|⟨_,_,_,e1,_,e2⟩
 ·rw [e2];have:os[m].text.size=0:=by
   have:=congrArg List.length e1;simpa using this
  rw [this];exact⟨by simp,by omega⟩
 ·rw [e1,e2,List.length_map];exact⟨Nat.le_trans (List.length_filter_le _ _) hsx.1,hsx.2⟩
theorem yo {w w':World} {p:Option Addr} {ns os:List Nd} {d:Bool} (ha:aj w p ns) (hs:Small ns) (hV:Val ns) (hd:d=true→bX ns) (hC:Cut d ns os) {B:Nat} {v:Value} (hO:w'.ownsRow B 30 4 v os.length (iF os)) (hK:∀x∈os,Ints B w' (.slice x.kp x.kids.length x.aC) x.kids):
  ∃pa ca,v=.slice pa os.length ca∧aj w' pa os∧Small os∧eZ os:=by
 have hsm:=Jd hs hC;have hV2:=pU hC hV hd;obtain⟨pa,ca,hv,hN⟩:=CJ hO hK (by have:=hsm.1;unfold maxLen;omega) (fun y hy=>by
  obtain⟨m,hm,rfl⟩:=List.getElem_of_mem hy;have hym:=List.getElem?_eq_getElem hm;obtain⟨n,x,hx,_,_,hc⟩:=hC.src hym;obtain⟨f1,f2,f3,f4,f5,f6⟩:=ha.2.1 x (List.mem_of_getElem? hx);have hsy:=hsm.2 _ hy;have cX:=hV2.kind hym;refine⟨⟨by omega,by omega⟩, ?_,by unfold maxLen;omega,by unfold maxLen;omega,fun k hk=>?_⟩
  ·rcases hc with⟨_,_,_,_,e⟩|⟨_,_,_,_,e,_⟩
   ·rw [e];exact⟨by omega,by omega⟩
   ·rw [e];exact f2
  ·have:=(hV2.node m _ hm hym).kids k hk;have:=hsm.1;exact⟨by omega,by omega⟩)
 exact⟨pa,ca,hv,hN,hsm,fun x hx=>OG (hK x hx)⟩
structure Fit (w:World) (p:Option Addr) (ns:List Nd):Prop where
 aT:aj w p ns
 small:Small ns
 Aq:eZ ns
 val:Val ns
theorem Fit.later {w w':World} {p:Option Addr} {ns:List Nd} (h:Fit w p ns) (hb:Below w.heap.size w w'):Fit w' p ns:=⟨aj.later h.aT hb,h.small,h.Aq,h.val⟩
theorem OH {w:World} {p:Option Addr} {c:Nat} {ns:List Nd} (h:Fit w p ns) (hl0:bu w):Calls Tryz.prog 10 #[.slice p ns.length c] w fun e w'=>
  (∃pa ca az,e=.returned (.tuple #[.slice pa az.length ca,.int .i64 0])∧Hid (Fit w' pa az∧az.map strip=(aP ns ns.length).2))∧Below w.heap.size w w':=
 (Je p c ns w h.aT h.small h.Aq hl0).mono fun e w' ⟨hb,v,n,he,hn,hr⟩=>by
  have h0:=(kP ns).2 h.val;rw [h0] at hn;subst hn;obtain⟨_,QK,B,os,_,SH,hO,hK⟩:=hr.resolve_left (fun q=>q.1 rfl);have hC:=uO h.val SH;obtain⟨pa,ca,rfl,h1,h2,h3⟩:=yo (d:=false) h.aT h.small h.val (fun e=>nomatch e) hC hO hK;exact⟨⟨pa,ca,os,he,hid ⟨⟨h1,h2,h3,pU (d:=false) hC h.val (fun e=>nomatch e)⟩,SH⟩⟩,hb⟩
theorem TT {w:World} {p:Option Addr} {c:Nat} {ns:List Nd} (h:Fit w p ns) (hu:bX ns) (hl0:bu w):Calls Tryz.prog 12 #[.slice p ns.length c] w fun e w'=>
  (∃pa ca bs,e=.returned (.tuple #[.slice pa bs.length ca,.int .i64 0])∧Hid (Fit w' pa bs∧bs.map strip=(cB ns ns.length).2))∧Below w.heap.size w w':=
 (yV p c ns w h.aT h.small h.Aq hl0).mono fun e w' ⟨hb,v,n,he,hn,hr⟩=>by
  have h0:=(kP ns).2 h.val;rw [h0] at hn;subst hn;obtain⟨_,QK,B,os,_,SH,hO,hK⟩:=hr.resolve_left (fun q=>q.1 rfl);have hC:=Gm h.val hu SH;obtain⟨pa,ca,rfl,h1,h2,h3⟩:=yo h.aT h.small h.val (fun _=>hu) hC hO hK;exact⟨⟨pa,ca,os,he,hid ⟨⟨h1,h2,h3,pU hC h.val (fun _=>hu)⟩,SH⟩⟩,hb⟩
structure TU (w:World) (s:Fs) (p:Option Addr):Prop where
 few:s.vars.length≤maxLen∧s.funcs.length≤maxLen
 each:∀(i:Nat) (x:Vr),s.vars[i]?=some x→∃g,p=some ⟨g,0,none⟩∧g<w.heap.size∧w.cell? ⟨g,i*4,none⟩=some (.int .i64 x.node)∧w.cell? ⟨g,i*4+1,none⟩=some (.int .i64 x.fn)∧w.cell? ⟨g,i*4+2,none⟩=some (.bool x.taken)∧w.cell? ⟨g,i*4+3,none⟩=some (.bool x.set)
theorem TU.later {w w':World} {s:Fs} {p:Option Addr} (h:TU w s p) (hb:Below w.heap.size w w'):TU w' s p:=
 ⟨h.few,fun i x hx=>by
  obtain⟨g,e,hg,c0,c1,c2,c3⟩:=h.each i x hx;exact⟨g,e,Nat.lt_of_lt_of_le hg hb.size,cell_later hb c0,cell_later hb c1,cell_later hb c2,cell_later hb c3⟩⟩
theorem CK {w:World} {p:Option Addr} {c:Nat} {ns:List Nd} (ha:aj w p ns) (hs:Small ns) (hc:eZ ns) (hl0:bu w):Calls Tryz.prog 11 #[.slice p ns.length c] w fun e w'=>
  (∃n2,∃p0 c0 p1 m1 c1 p2 c2 p3 m3 c3 n1,e=.returned (.tuple #[.agg #[.slice p0 (bC ns).1.vars.length c0,.slice p1 m1 c1,.slice p2 (bC ns).1.funcs.length c2,.slice p3 m3 c3],.int .i64 n1,.int .i64 n2])∧n2=(bC ns).2.2∧Hid (TU w' (bC ns).1 p0))∧Below w.heap.size w w':=
 (Ij w p c ns hs hc ha hl0).mono fun e w' ⟨v0,v1,v2,v3,he,hb,hS⟩=>by
  have hv:∃p0 c0,v0=.slice p0 (bC ns).1.vars.length c0∧TU w' (bC ns).1 p0:=by
   have hf:(bC ns).1.funcs.length≤maxLen:=by
    rcases hS.funcs.2 with⟨_,e2⟩|⟨g,cap,cur,_,_,_,e4,e5,_⟩
    ·omega
    ·omega
   rcases hS.vars.2 with⟨e1,e2⟩|⟨g,cap,cur,e1,e2,e3,e4,e5,e6,e7⟩
   ·refine⟨none,0,by rw [e1,e2],⟨by rw [e2];exact Nat.zero_le _,hf⟩,fun i x hx=>?_⟩;have:=(List.getElem?_eq_some_iff.1 hx).1;omega
   ·refine⟨_,_,e1,⟨Nat.le_trans e4 e5,hf⟩,fun i x hx=>⟨g,rfl,(Array.getElem?_eq_some_iff.1 e3).1, ?_⟩⟩;obtain⟨hi,JS⟩:=List.getElem?_eq_some_iff.1 hx;have vC:∀j,j<4→cur[i*4+j]?=(x.cells)[j]?:=fun j hj=>by
     rw [←JS,←rG _ i hi j hj,←e7,List.getElem?_take_of_lt aa];simp
    refine⟨?_, ?_, ?_, ?_⟩
    ·have:=vC 0 aa;simp only [Nat.add_zero] at this;simp [World.cell?,e3,this,Vr.cells]
    ·simp [World.cell?,e3,vC 1 aa,Vr.cells]
    ·simp [World.cell?,e3,vC 2 aa,Vr.cells]
    ·simp [World.cell?,e3,vC 3 aa,Vr.cells]
  obtain⟨p0,c0,rfl,hv⟩:=hv;obtain⟨p2,c2,e2,_⟩:=hS.funcs.out;subst e2;obtain⟨p1,c1,e1,_⟩:=hS.uses.out;subst e1;obtain⟨p3,c3,e3,_⟩:=hS.jh.out;subst e3;exact⟨⟨_,p0,c0,p1,_,c1,p2,c2,p3,_,c3,_,he,rfl,hid hv⟩,hb⟩
theorem aaf {ns:List Nd} (h:(bC ns).2.2=0):Val ns∧(bp ns).e=0∧bC ns=(bp ns,0,0):=by
 unfold bC at h ⊢;by_cases h1:(aS ns).2≠0
 ·rw [if_pos h1] at h;exact absurd h h1
 ·rw [if_neg h1] at h ⊢;by_cases h2:(bp ns).e≠0
  ·rw [if_pos h2] at h;exact absurd h h2
  ·rw [if_neg h2];exact⟨(kP ns).1 (Classical.byContradiction h1),Classical.byContradiction h2,rfl⟩
theorem aag {ns:List Nd} (h:Val ns) (he:(bp ns).e=0):bC ns=(bp ns,0,0):=by
 unfold bC;rw [if_neg (by rw [(kP ns).2 h];simp),if_neg (by rw [he];simp)]
end Go.Proofs.YtbgjanmheagilaaGreatDoor
/- A part of the proof. Conditions: none. -/
set_option maxRecDepth 100000
set_option maxHeartbeats 8000000
namespace Go.Proofs.YtbgjanmheagilaaGreatDoor
open Go Go.RowKit Go.Nodes
theorem vM (p:Option Addr) (c:Nat) (ns:List Nd) (w:World) (ha:aj w p ns) (hs:PW ns) (hc:eZ ns) (hl0:bu w):
  Calls Tryz.prog 4 #[.slice p ns.length c] w fun e w'=>e=.returned (.bool true)∧Below w.heap.size w w':=by
 have Haw:Hid (∀w',Below w.heap.size w w'→Calls Tryz.prog 8 #[] w' fun e w2=>e=.returned (.bool true)∧Below w'.heap.size w' w2):=hid fun w' h=>TV w' (hl0.later h)
 have F1:Hid (∀w',Below w.heap.size w w'→Calls Tryz.prog 9 #[.slice p ns.length c] w' fun e w2=>e=.returned (.bool (sX ns 0))∧Below w'.heap.size w' w2):=hid fun w' h=>Qi p c ns w' (aj.later ha h)
 obtain⟨b0,hb0⟩:∃b0,b0=(bC ns).2.2:=⟨_,rfl⟩;obtain⟨m,hm⟩:∃m,m=(bC ns).1.vars.length:=⟨_,rfl⟩;obtain⟨q,hq⟩:∃q,q=(bC ns).1.funcs.length:=⟨_,rfl⟩;obtain⟨L,hL⟩:∃L,L=ns.length:=⟨_,rfl⟩;have F3:Hid (sX ns 0=true→∀w',Below w.heap.size w w'→Calls Tryz.prog 11 #[.slice p L c] w' fun e w2=>(∃p0 c0 p1 m1 c1 p2 c2 p3 m3 c3 n1,e=.returned (.tuple #[.agg #[.slice p0 m c0,.slice p1 m1 c1,.slice p2 q c2,.slice p3 m3 c3],.int .i64 n1,.int .i64 b0])∧Hid (TU w2 (bC ns).1 p0))∧Below w'.heap.size w' w2):=
  hid fun hf w' h=>by
   rw [hb0,hm,hq,hL];refine(CK (aj.later ha h) (CM hs hf) hc (hl0.later h)).mono fun e w2 hp=>?_
   obtain⟨⟨n2,p0,c0,p1,m1,c1,p2,c2,p3,m3,c3,n1,he,hn,hS⟩,hb⟩:=hp;exact⟨⟨p0,c0,p1,m1,c1,p2,c2,p3,m3,c3,n1,by rw [he,hn],hS⟩,hb⟩
 have RQ:=hid fun h=>CM hs h
 have Ha:=hid ha;have Hc:=hid hc;have Hl:=hid hl0;rw [←hL] at F1 ⊢;have HL:=hid hL;have qD:=hid hb0;have Hm:=hid hm;have Hq:=hid hq;clear ha hs hc hl0 hb0 hm hq hL;cases hf:sX ns 0 with
 |false=>
  rw [hf] at F1;clear F3 hf;go_enter Tryz.func4,Tryz.ntmps4;go_wp2_with (first
   |(go_at_call 8;((with_reducible refine(Haw.out _ sY).mono ?_));rintro e w' ⟨rfl,hb⟩;obtain⟨g1,rfl⟩:=aA hb;clear hb)
   |(go_at_call 9;((with_reducible refine(F1.out _ sY).mono ?_));rintro e w' ⟨rfl,hb⟩;obtain⟨g2,rfl⟩:=aA hb;clear hb))
  exact NM
 |true=>
  rw [hf] at F1;have G3:=hid (F3.out hf);have Hs:=hid (RQ.out hf);clear F3 RQ hf;by_cases eI:b0=0
  ·subst eI;obtain⟨hV,hE,hO⟩:=aaf qD.out.symm;rw [hO] at G3 Hm Hq;have HV:=hid hV;have HE:=hid hE;have S10:Hid (∀w',Below w.heap.size w w'→Calls Tryz.prog 10 #[.slice p L c] w' fun e w2=>(∃pa n1 ca az,e=.returned (.tuple #[.slice pa n1 ca,.int .i64 0])∧Hid (n1=az.length∧Fit w2 pa az∧az.map strip=(aP ns ns.length).2))∧Below w'.heap.size w' w2):=
    hid fun w' h=>by
     rw [HL.out];refine(OH (Fit.later ⟨Ha.out,Hs.out,Hc.out,HV.out⟩ h) (Hl.out.later h)).mono fun e w2 hp=>?_
     obtain⟨⟨pa,ca,az,he,hk⟩,hb⟩:=hp;exact⟨⟨pa,_,ca,az,he,hid ⟨rfl,hk.out⟩⟩,hb⟩
   have S12:Hid (∀(pa:Option Addr) (n1 ca:Nat) (az:List Nd) (W W3:World),(n1=az.length∧Fit W pa az∧az.map strip=(aP ns ns.length).2)→Below W.heap.size W W3→Below w.heap.size w W3→Calls Tryz.prog 12 #[.slice pa n1 ca] W3 fun e w2=>(∃pb n2 cb bs,e=.returned (.tuple #[.slice pb n2 cb,.int .i64 0])∧Hid (n2=bs.length∧Fit w2 pb bs∧bs.map strip=(cB az az.length).2))∧Below W3.heap.size W3 w2):=
    hid fun pa n1 ca az W W3 hk hb hw=>by
     obtain⟨rfl,h1,h2⟩:=hk;refine(TT (h1.later hb) (su (uO HV.out h2)) (Hl.out.later hw)).mono fun e w2 hp=>?_
     obtain⟨⟨pb,cb,bs,he,hk⟩,hb⟩:=hp;exact⟨⟨pb,_,cb,bs,he,hid ⟨rfl,hk.out⟩⟩,hb⟩
   have S11:Hid (∀(pb:Option Addr) (n2 cb:Nat) (az bs:List Nd) (W W3:World),az.map strip=(aP ns ns.length).2→(n2=bs.length∧Fit W pb bs∧bs.map strip=(cB az az.length).2)→Below W.heap.size W W3→Below w.heap.size w W3→Calls Tryz.prog 11 #[.slice pb n2 cb] W3 fun e w2=>(∃p0 c0 p1 m1 c1 p2 c2 p3 m3 c3 n1,e=.returned (.tuple #[.agg #[.slice p0 m c0,.slice p1 m1 c1,.slice p2 q c2,.slice p3 m3 c3],.int .i64 n1,.int .i64 0])∧Hid (TU w2 (bp bs) p0∧Alike ns bs (bp ns) (bp bs)∧aj w2 pb bs∧n2=bs.length))∧Below W3.heap.size W3 w2):=
    hid fun pb n2 cb az bs W W3 h2 hk hb hw=>by
     obtain⟨rfl,h1,h3⟩:=hk;obtain⟨_,a2,a3,a4⟩:=BZ HV.out h2 h3 HE.out;have ho:=aag a2 a3;have Yi:=h1.later hb;refine(CK Yi.aT Yi.small Yi.Aq (Hl.out.later hw)).mono fun e w2 hp=>?_
     obtain⟨⟨n2,p0,c0,p1,m1,c1,p2,c2,p3,m3,c3,n1,he,hn,hS⟩,hb2⟩:=hp;rw [ho] at he hn hS;refine⟨⟨p0,c0,p1,m1,c1,p2,c2,p3,m3,c3,n1, ?_,hid ⟨hS.out,a4,aj.later Yi.aT hb2,rfl⟩⟩,hb2⟩;rw [he,hn,a4.vars,a4.funcs,Hm.out,Hq.out]
   clear hV hE hO;go_enter Tryz.func4,Tryz.ntmps4;go_wp2_with (first
    |(go_at_call 8;((with_reducible refine(Haw.out _ sY).mono ?_));rintro e w' ⟨rfl,hb⟩;obtain⟨g1,rfl⟩:=aA hb;clear hb)
    |(go_at_call 9;((with_reducible refine(F1.out _ sY).mono ?_));rintro e w' ⟨rfl,hb⟩;obtain⟨g2,rfl⟩:=aA hb;clear hb)
    |(go_at_call 11;((with_reducible refine(G3.out _ sY).mono ?_));rintro e w' ⟨⟨p0,c0,p1,m1,c1,p2,c2,p3,m3,c3,n1,rfl,K1⟩,hb⟩;obtain⟨g3,rfl⟩:=aA hb;clear hb)
    |(go_at_call 10;((with_reducible refine(S10.out _ sY).mono ?_));rintro e w' ⟨⟨pa,na,ca,az,rfl,K2⟩,hb⟩;obtain⟨g4,rfl⟩:=aA hb;clear hb)
    |(go_at_call 12;((with_reducible refine(S12.out _ _ _ _ _ _ K2.out ?_ ?_).mono ?_));rotate_left 2;rintro e w' ⟨⟨pb,nb,cb,bs,rfl,K3⟩,hb⟩;obtain⟨g5,rfl⟩:=aA hb;clear hb)
    |(go_at_call 11;((with_reducible refine(S11.out _ _ _ _ _ _ _ K2.out.2.2 K3.out ?_ ?_).mono ?_));rotate_left 2;rintro e w' ⟨⟨p0',c0',p1',m1',c1',p2',c2',p3',m3',c3',n1',rfl,K4⟩,hb⟩;obtain⟨g6,rfl⟩:=aA hb;clear hb))
   all_goals first
    |(repeat (first|exact Below.refl _ _|refine bG ?_ _|refine bA ?_ _|refine bD ?_|refine bN ?_ _));done
    |(simp only [grow_grow];(repeat (first|exact Below.refl _ _|refine bG ?_ _|refine bA ?_ _|refine bD ?_|refine bN ?_ _));done)
    |skip
   have k1:=K1.out;have k4:=K4.out;have Ht:Hid (az.map strip=(aP ns ns.length).2):=hid K2.out.2.2;simp only [grow_grow] at k1 k4;obtain⟨B3,hB3⟩:∃B,w.heap.size+((g1.app g2).app g3).size=B:=⟨_,rfl⟩;obtain⟨B10,TW⟩:∃B,B3+1+((g4.app g5).app g6).size=B:=⟨_,rfl⟩;obtain⟨W0,hW0⟩:∃W0,(grow ((grow w ((g1.app g2).app g3)).alloc (.cells #[.slice p0 m c0,.slice p1 m1 c1,.slice p2 q c2,.slice p3 m3 c3] 33)) ((g4.app g5).app g6)).alloc (.cells #[.slice p0' m c0',.slice p1' m1' c1',.slice p2' q c2',.slice p3' m3' c3'] 33)=W0:=⟨_,rfl⟩;have hw0:Below w.heap.size w W0:=by rw [←hW0];repeat (first|exact Below.refl _ _|refine bG ?_ _|refine bA ?_ _|refine bD ?_|refine bN ?_ _)
   have hS1:TU W0 (bp ns) p0:=k1.later (by rw [←hW0];repeat (first|exact Below.refl _ _|refine bG ?_ _|refine bA ?_ _|refine bD ?_|refine bN ?_ _));have hb4:Below _ _ W0:=bA (Below.refl (grow ((grow w ((g1.app g2).app g3)).alloc (.cells #[.slice p0 m c0,.slice p1 m1 c1,.slice p2 q c2,.slice p3 m3 c3] 33)) ((g4.app g5).app g6)).heap.size _) (.cells #[.slice p0' m c0',.slice p1' m1' c1',.slice p2' q c2',.slice p3' m3' c3'] 33)|>fun h=>by rw [hW0] at h;exact h
   have DC:TU W0 (bp bs) p0':=k4.1.later hb4;have hN2:aj W0 pb bs:=aj.later k4.2.2.1 hb4;have hAl:=k4.2.1;have e3:W0.cell? ⟨B3,0,none⟩=some (.slice p0 m c0):=by rw [←hW0,←hB3];simp [go_sem]
   have e10:W0.cell? ⟨B10,0,none⟩=some (.slice p0' m c0'):=by rw [←hW0,←TW,←hB3];simp [go_sem]
   have s10:B10<W0.heap.size:=by rw [←hW0,←TW,←hB3];simp [go_sem]
   have s3:B3<W0.heap.size:=aa;have HX:=hid (And.intro hS1 (And.intro DC (And.intro hN2 hAl)));have hnb:nb=bs.length:=k4.2.2.2;have nc:(m:Int)≤9223372036854775807:=by have:=hS1.few.1;rw [←Hm.out] at this;unfold maxLen at this;omega
   have HB0:=hid hw0;have Hnb:=hid hnb;rw [hW0,hB3,TW];clear k1 k4 hW0 hB3 TW hw0 hS1 DC hN2 hAl hb4 hnb K1 K2 K3 K4 Ht S10 S11 S12 G3;go_loopw [76] (fun iv wr=>∃j:Nat,j≤m∧iv=.int .i64 j∧Below W0.heap.size W0 wr) (fun iv _=>m - (intOf iv).toNat)
   case atStart=>exact⟨0,Nat.zero_le _,rfl,Below.refl _ _⟩
   case round=>
    obtain⟨j,hj,rfl,hB⟩:=hrel;by_cases hjm:j<m
    ·have hx:=List.getElem?_eq_getElem (l:=(bp ns).vars) (i:=j) (by have:=Hm.out;omega);have hy:=List.getElem?_eq_getElem (l:=(bp bs).vars) (i:=j) (by have:=Hm.out;have:=HX.out.2.2.2.vars;omega);generalize (bp ns).vars[j]'(by have:=Hm.out;omega)=x at hx;generalize (bp bs).vars[j]'(by have:=Hm.out;have:=HX.out.2.2.2.vars;omega)=y at hy;obtain⟨u1,u2,u3,n,n',xn,yn,u4,u5,u6,u7,u8⟩:=HX.out.2.2.2.each j x y hx hy;obtain⟨gx,rfl,hgx,x0,x1,x2,x3⟩:=(HX.out.1.later hB).each j x hx;obtain⟨gy,rfl,hgy,y0,y1,y2,y3⟩:=(HX.out.2.1.later hB).each j y hy;rw [u4] at x0;rw [u5] at y0;rw [u1] at y1;rw [u2] at y2;rw [u3] at y3;obtain⟨b,o,rfl,hbl,hnz,Lv,r0,t1,r2,r3⟩:=aY (aj.later Ha.out (HB0.out.trans (hB.mono HB0.out.size))) (aG u6);obtain⟨b',o',rfl,alW,aah,hf2,r0',t1',r2',r3'⟩:=aY (aj.later HX.out.2.2.1 hB) (aG u7);rw [u6] at hnz;rw [u7] at aah;rw [←Option.some.inj hnz] at t1;rw [←Option.some.inj aah,u8] at t1';have d3:=cell_later hB e3;have d10:=cell_later hB e10;have z3:B3<wr.heap.size:=Nat.lt_of_lt_of_le s3 hB.size;have z10:B10<wr.heap.size:=Nat.lt_of_lt_of_le s10 hB.size;have j0:(0:Int)≤(j:Int):=aa;have j1:(j:Int)<(m:Int):=aa;have n0:(0:Int)≤(n:Int):=aa;have n1:(n:Int)<(L:Int):=by have:=aG u6;have:=HL.out;omega
     have n0':(0:Int)≤(n':Int):=aa;have n1':(n':Int)<(nb:Int):=by have:=aG u7;have:=Hnb.out;omega
     have HB:=hid hB;clear Lv hf2 r0 r2 r3 r0' r2' r3';clear hx hy hnz aah u1 u2 u3 u4 u5 u6 u7 u8 hB;generalize xn.text=tx at*;generalize x.fn=fx at*;generalize x.taken=kx at*;generalize x.set=sx at*;go_wp2;go_region
     all_goals
      go_wp2;go_quiet (fail);go_wp2;go_roundw
      case rel=>exact⟨j+1,by omega,by go_num,by have:=HB.out;repeat (first|exact Below.refl _ _|exact HB.out|refine bG ?_ _|refine bI ?_ _ _|refine bA ?_ _|refine bD ?_|refine bN ?_ _)⟩
      case measure=>simp [intOf];omega
    ·obtain rfl:j=m:=by omega
     have HB:=hid hB;clear hB;go_wp2;go_ret;exact⟨rfl,HB0.out.trans (HB.out.mono HB0.out.size)⟩
  ·have hne:(b0 !=0)=true:=by simp [eI]
   clear eI;go_enter Tryz.func4,Tryz.ntmps4;go_wp2_with (first
    |(go_at_call 8;((with_reducible refine(Haw.out _ sY).mono ?_));rintro e w' ⟨rfl,hb⟩;obtain⟨g1,rfl⟩:=aA hb;clear hb)
    |(go_at_call 9;((with_reducible refine(F1.out _ sY).mono ?_));rintro e w' ⟨rfl,hb⟩;obtain⟨g2,rfl⟩:=aA hb;clear hb)
    |(go_at_call 11;((with_reducible refine(G3.out _ sY).mono ?_));rintro e w' ⟨⟨p0,c0,p1,m1,c1,p2,c2,p3,m3,c3,n1,rfl,K1⟩,hb⟩;obtain⟨g3,rfl⟩:=aA hb;clear hb))
   exact NM
end Go.Proofs.YtbgjanmheagilaaGreatDoor