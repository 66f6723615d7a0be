/- A part of the proof. Conditions: none. -/
import Derived.Deep.RegionHeld3
import Derived.Deep.RegionWith
import Derived.Test.YtbgjanmheagilaaGreatDoorZz
import Derived.Test.YtbgjanmheagilaaGreatDoorRoX
import Derived.Test.YtbgjanmheagilaaGreatDoorAmSX
import Derived.Defers
import Derived.Recover
import Derived.Laws.Pointers
import Derived.Laws.Rows
set_option linter.unusedVariables false
set_option linter.unusedSimpArgs false
set_option maxRecDepth 100000
set_option maxHeartbeats 8000000
namespace Go.Proofs.YtbgjanmheagilaaGreatDoor
open Go Go.RowKit Go.Nodes
theorem Na {k:Nat} (h1:1≤k) (h2:k≤36):aI k∈mK:=by
 have h:((List.range 37).all fun k=>Nat.beq k 0||decide (aI k∈mK))=true:=cZ;have h3:=List.all_eq_true.1 h k (List.mem_range.2 aa);cases e:Nat.beq k 0 with
 |true=>have:=Nat.eq_of_beq_eq_true e;omega
 |false=>rw [e] at h3;simpa using h3
theorem Sa {w:World} {p kp:Option Addr} {ns:List Nd} {kids:List Int} (ha:aj w p ns) (hf:bR w kp kids) (n:Nat) (hn:n≤ns.length) (hv:iZ ns n) (dR:∀k∈kids,0≤k∧k<n):zw w p kp ns.length (aO ns kids):=by
 intro i k hi;unfold aO at hi;rw [List.getElem?_map] at hi;cases hg:kids[i]? with
 |none=>rw [hg] at hi;cases hi
 |some a=>
  rw [hg] at hi;simp only [Option.map_some,Option.some.injEq] at hi;obtain⟨lB,hga⟩:=List.getElem?_eq_some_iff.1 hg;have F4:=dR a (List.mem_of_getElem? hg);obtain⟨z,rfl⟩:∃z:Nat,a=(z:Int):=⟨a.toNat,by omega⟩;have hzl:z<ns.length:=aa;obtain⟨b2,o2,rfl,hb2,hx2,hf2,d0,d1,d2,d3⟩:=aY ha hzl;have hvz:=hv z _ aa hx2;rw [aR hx2] at hi;rcases hf with ix|⟨bk,ok,rfl,dz,dy⟩
  ·subst ix;simp at lB
  have h1:=hvz.k1;have h2:=hvz.JJ;have KD:=dy i lB;rw [hga] at KD;refine⟨by omega,by omega,b2,o2,bk,ok,z,rfl,rfl,hb2,dz,hzl,KD, ?_⟩;rw [d0,←hi];congr 2;omega
def EM (S ks:Value) (X kk:Nat) (fo:List UInt8):Nat→World→Value→Prop
 |0,w,v=>v=S
 |1,w,v=>v=.pointer (some ⟨X+1,2,none⟩)
 |2,w,v=>v=ks
 |3,w,v=>v=.pointer (some ⟨X+1,0,none⟩)
 |4,w,v=>v=.int .i64 kk
 |5,w,v=>v=.pointer (some ⟨X,kk,none⟩)
 |_,w,v=>v=str fo
theorem kK {S ks:Value} {X kk:Nat} {fo:List UInt8}:∀(k:Nat) (w w':World) (v:Value),Below w.heap.size w w'→EM S ks X kk fo k w v→EM S ks X kk fo k w' v:=by
 intro k w w' v hb h;unfold EM at*;split at h<;>first|exact h|exact h
def gL (ns:List Nd) (x:Nd) (n:Nat) (us:List Bool):Option (List Bool):=match bZ n x.kids us with
 |none=>none
 |some aW=>if okB ns x then some aW else none
def vu (B:Nat) (w W:World) (U:Nat) (r:Option (List Bool)) (e:Ending) (w':World):Prop:=match r with
 |none=>e=.panicked thrown∧∃aW g,w'=grow (aM W U aW) g
 |some aW=>e=.returned (.tuple #[])∧∃g,w'=grow (aM W U aW) g
theorem rC {B:Nat} {w W:World} {U:Nat} {r:Option (List Bool)} {e:Ending} {w':World} (aW:List Bool) (hr:r=none) (he:e=.panicked thrown) (hb:Below (aM W U aW).heap.size (aM W U aW) w'):vu B w W U r e w':=by
 subst hr;obtain⟨g,hg⟩:=aA hb;exact⟨he,aW,g,hg⟩
theorem I1 {B:Nat} {w W:World} {U:Nat} {r:Option (List Bool)} {aW:List Bool} {e:Ending} {w':World} (hr:r=some aW) (he:e=.returned (.tuple #[])) (g:eo) (hb:w'=grow (aM W U aW) g):vu B w W U r e w':=by
 subst hr;exact⟨he,g,hb⟩
theorem Cs {ns:List Nd} {x:Nd} (h:¬(1≤x.kind∧x.kind≤36)):okB ns x=false:=by unfold okB;rw [decide_eq_false h];simp
theorem I2 {ns:List Nd} {x:Nd} (h:¬0≤x.place):okB ns x=false:=by unfold okB;rw [decide_eq_false h];simp
theorem vw {ns:List Nd} {x:Nd} {n:Nat} {us:List Bool} (h:okB ns x=false):gL ns x n us=none:=by
 unfold gL;cases bZ n x.kids us with
 |none=>rfl
 |some u=>simp [h]
theorem Nb (w W:World) (p:Option Addr) (c:Nat) (ns:List Nd) (hs:Small ns) (hc:eZ ns) (ha:aj w p ns) (hl0:bu w) (n:Nat) (hn:n<ns.length) (hv:iZ ns n)
  (fa:Array Value) (hfa:∀k,1≤k→k≤36→fa[k]?=some (str (aI k))) (U:Nat) (uc:Nat) (us:List Bool) (VE:us.length=ns.length) (hW:Below w.heap.size w W) (hU:w.heap.size≤U) (hU2:U<W.heap.size):
  Calls Tryz.prog 57 #[.slice p ns.length c,.int .i64 (n:Int),.slice (some ⟨U,0,none⟩) ns.length uc,.agg fa] (aM W U us) (vu w.heap.size w W U (gL ns ns[n] n us)):=by
 obtain⟨b,o,rfl,hb,hx,hf,c0,c1,c2,c3⟩:=aY ha hn;have hsm:=hs.2 ns[n] (List.getElem_mem hn);have bL:=hc ns[n] (List.getElem_mem hn);have Ha:=hid ha;have Hs:=hid hs;have Hc:=hid hc;have Hl:=hid hl0;have Hv:=hid hv;have Hfa:=hid hfa;have HW:=hid hW;have e0:W.cell? ⟨b,o+n*4,none⟩=some (.int .i64 ns[n].kind):=(hW.cell (p:=⟨b,_,none⟩) hb).trans c0;have e1:W.cell? ⟨b,o+n*4+1,none⟩=some (.string ns[n].text):=(hW.cell (p:=⟨b,_,none⟩) hb).trans c1;have e2:W.cell? ⟨b,o+n*4+2,none⟩=some (.slice ns[n].kp ns[n].kids.length ns[n].aC):=(hW.cell (p:=⟨b,_,none⟩) hb).trans c2;have e3:W.cell? ⟨b,o+n*4+3,none⟩=some (.int .i64 ns[n].place):=(hW.cell (p:=⟨b,_,none⟩) hb).trans c3;have Hf:=hid hf.2.2.2.2.2;have hL5:(ns.length:Int)≤5000:=by have:=hs.1;omega
 have n0:(0:Int)≤(n:Int):=aa;have n1:(n:Int)<(ns.length:Int):=aa;have bU:¬b=U:=aa;have bw:b<W.heap.size:=aa;have Hx:=hid hx;clear c0 c1 c2 c3 ha hs hc hl0 hv hfa hW hf hx;obtain⟨L,hL⟩:∃L,L=ns.length:=⟨_,rfl⟩;rw [←hL] at VE hL5 n1 ⊢;have HL:=hid hL;clear hL;obtain⟨q,hq⟩:∃q,q=ns[n].kids.length:=⟨_,rfl⟩;rw [←hq] at e2;have Dn:(q:Int)≤20000:=by have:=hsm.1;omega
 generalize JS:ns[n]=x at*;obtain⟨kind,text,kp,aC,kids,place⟩:=x;simp only at hsm bL hq Hf e0 e1 e2 e3;have RQ:=hid hsm;have sZ:=hid bL;have Hq:=hid hq;have Hxx:=hid JS;clear hsm bL hq JS;have UQ:Below w.heap.size w (aM W U us):=jn HW.out hU;have Hbw:=hid UQ;clear UQ;by_cases JM:kind≤0
 ·have hr:gL ns ⟨kind,text,kp,aC,kids,place⟩ n us=none:=vw (Cs (by simp only;omega));have Hr:=hid hr;clear hr;exact Nc
 by_cases agA:36<kind
 ·have hr:gL ns ⟨kind,text,kp,aC,kids,place⟩ n us=none:=vw (Cs (by simp only;omega));have Hr:=hid hr;clear hr;have YT:¬kind<37:=aa;exact Nc
 by_cases hpl:place<0
 ·have hr:gL ns ⟨kind,text,kp,aC,kids,place⟩ n us=none:=vw (I2 (by simp only;omega));have Hr:=hid hr;clear hr;have YT:kind<37:=aa;have agB:0<kind:=aa;have ags:¬0≤place:=aa;exact Nc
 obtain⟨k,rfl⟩:∃k:Nat,kind=(k:Int):=⟨kind.toNat,by omega⟩;have YT:(k:Int)<37:=aa;have agB:(0:Int)<(k:Int):=aa;have tD:1≤k:=aa;have Bb:k≤36:=aa;have agC:(0:Int)≤place:=aa;clear JM agA hpl;go_enter Tryz.func57,Tryz.ntmps57;go_wp2_with (go_at_call 91;((with_reducible refine(cO _).mono ?_));rintro e w' ⟨rfl,hw⟩;rw [hw];clear hw w');go_loopw [32] (fun i wr=>∃(j:Nat) (aW:List Bool),j≤q∧i=.int .i64 j∧aW.length=L∧
  wr=((aM W U aW).alloc (.cells fa 85)).alloc (.cells #[.int .i64 k,.string text,.slice kp q aC,.int .i64 place] 30)∧Hid (bZ n (kids.drop j) aW=bZ n kids us)) (fun i _=>q - (intOf i).toNat)
 case atStart=>exact⟨0,us,by omega,rfl,VE,rfl,hid rfl⟩
 case round=>
  obtain⟨j,aW,hj,rfl,ia,rfl,hI⟩:=hrel;have acW:Hid (Below w.heap.size w (((aM W U aW).alloc (.cells fa 85)).alloc (.cells #[.int .i64 k,.string text,.slice kp q aC,.int .i64 place] 30))):=hid (bA (bA (jn HW.out hU) _) _);by_cases Uv:j<q
  ·have hjk:j<kids.length:=by have:=Hq.out;omega
   rcases Hf.out with ix|⟨bx,ox,RR,tP,sV⟩
   ·subst ix;simp at hjk
   subst RR;replace sV:=(HW.out.cell (p:=⟨bx,_,none⟩) tP).trans (sV j hjk);have bxU:¬bx=U:=aa;have bxw:bx<W.heap.size:=by have:=HW.out.size;omega
   have cX:=vg n kids j hjk aW;rw [hI.out] at cX;generalize kids[j]=u at*;have q0:(0:Int)≤(j:Int):=aa;have q1:(j:Int)<(q:Int):=aa;have eI:¬(0≤u∧u<n∧aW.getD u.toNat false=false)→gL ns ⟨k,text,some ⟨bx,ox,none⟩,aC,kids,place⟩ n us=none:=fun hno=>by
    rw [if_neg hno] at cX;unfold gL;simp only [cX]
   by_cases PZ:u<0
   ·have Hb:=hid (eI aa);have alc:¬(0:Int)≤u:=aa;exact VF
   by_cases Ga:(n:Int)≤u
   ·have Hb:=hid (eI aa);have hu2:0≤u:=aa;have hu3:¬u<(n:Int):=aa;exact VF
   obtain⟨z,rfl⟩:∃z:Nat,u=(z:Int):=⟨u.toNat,by omega⟩;rw [Int.toNat_natCast] at eI cX;have hz1:z<aW.length:=aa;have hz2:aW[z]?=some (aW.getD z false):=by rw [List.getD,List.getElem?_eq_getElem hz1];rfl
   have z0:(0:Int)≤(z:Int):=aa;have z1:(z:Int)<(n:Int):=aa;have z2:(z:Int)<(L:Int):=aa;cases fN:aW.getD z false with
   |true=>
    have Hb:=hid (eI (by rw [fN];simp));rw [fN] at hz2;clear eI cX fN;exact VG
   |false=>
    rw [fN] at hz2;rw [if_pos ⟨z0,z1,fN⟩] at cX;have lF:=hid cX;clear eI cX fN;go_wp2_with (go_at_call 91;((with_reducible refine(cO _).mono ?_));rintro e w' ⟨rfl,hw⟩;rw [hw];clear hw w');go_roundw
    case rel=>exact⟨j+1,aW.set z true,by omega,by go_num,by simp [ia],rfl,hid lF.out.symm⟩
    case measure=>simp [intOf];omega
  ·obtain rfl:j=q:=by omega
   have eM:bZ n kids us=some aW:=by rw [←hI.out,Hq.out,List.drop_length];rfl
   have eC:=fF n kids us aW eM;have Dr:=hid eM;have HX:Hid (Below w.heap.size w (((aM W U aW).alloc (.cells fa 85)).alloc (.cells #[.int .i64 k,.string text,.slice kp j aC,.int .i64 place] 30))):=acW;clear hI eM acW;have X8:fa[k]?=some (str (aI k)):=Hfa.out k tD Bb;have A5:n≤ns.length:=aa;obtain⟨fb,hfb⟩:∃fb,fb=bE (aI k) (aO ns kids):=⟨_,rfl⟩;have VH:∀W',Below w.heap.size w W'→Calls Tryz.prog 92 #[.slice (some ⟨b,o,none⟩) L c,.slice kp j aC,str (aI k)] W' fun e w'=>e=bV fb∧Below W'.heap.size W' w':=fun W' Gx=>by
    rw [hfb,HL.out];exact MB W' (some ⟨b,o,none⟩) kp ns.length c j aC (aI k) (Na tD Bb) aa dG _ (by simp [aO,Hq.out]) (Sa (aj.later Ha.out Gx) (bR.later Hf.out Gx) n A5 Hv.out eC)
   obtain⟨tb,RS⟩:∃tb,tb=mJ k text.data.toList j:=⟨_,rfl⟩;have VI:∀W',Below w.heap.size w W'→Calls Tryz.prog 93 #[.agg #[.int .i64 (k:Int),.string text,.slice kp j aC,.int .i64 place]] W' fun e w'=>e=.returned (.bool tb)∧Below W'.heap.size W' w':=fun W' Gx=>by
    rw [RS];exact My k tD Bb text (by have:=RQ.out.2;omega) kp j aC place W' (bu.later Hl.out Gx)
   obtain⟨eb,YO⟩:∃eb,eb=fZ ns ⟨k,text,kp,aC,kids,place⟩:=⟨_,rfl⟩;have Ct:fb=true→tb=true→∀W',Below w.heap.size w W'→Calls Tryz.prog 94 #[.slice (some ⟨b,o,none⟩) L c,.agg #[.int .i64 (k:Int),.string text,.slice kp j aC,.int .i64 place]] W' fun e w'=>e=bV eb∧Below W'.heap.size W' w':=fun h1 h2 W' Gx=>by
    have h:=Nf W' (some ⟨b,o,none⟩) c ns Hs.out (aj.later Ha.out Gx) (bu.later Hl.out Gx) n hn Hv.out ⟨k,text,kp,aC,kids,place⟩ (bR.later Hf.out Gx) RQ.out.1 RQ.out.2 sZ.out
     ⟨by simp only;omega,by simp only;omega,eC,by rw [Int.toNat_natCast];simp only;rw [←hfb];exact h1,by rw [Int.toNat_natCast];simp only;rw [←Hq.out,←RS];exact h2⟩
    unfold F2 at h;simp only at h;rw [←HL.out,←Hq.out,←YO] at h;exact h
   have ve:okB ns ⟨k,text,kp,aC,kids,place⟩=(fb && tb && eb):=by
    unfold okB;simp only [decide_eq_true agC,decide_eq_true (show(1:Int)≤(k:Int)∧(k:Int)≤36 by omega),Bool.true_and,Int.toNat_natCast,←Hq.out,←hfb,←RS,←YO]
   have sB:=hid VH;have Ng:=hid VI;have yc:=hid Ct;have aJ:gL ns ⟨k,text,kp,aC,kids,place⟩ n us=if(fb && tb && eb)=true then some aW else none:=by
    unfold gL;simp only [Dr.out,ve]
   have VJ:=hid aJ;clear VH VI Ct ve aJ hfb RS YO eC A5;generalize aI k=fo at*;cases fb with
   |false=>
    replace sB:Hid (∀W',Below w.heap.size w W'→Calls Tryz.prog 92 #[.slice (some ⟨b,o,none⟩) L c,.slice kp j aC,str fo] W' fun e w'=>e=.panicked thrown∧Below W'.heap.size W' w'):=sB;go_wp2;refine wp_region_any ak ?_;refine Am.di _ 7 rfl ak ?_;simp only [List.take_succ_cons,List.take_zero];refine Am.fE (Φ:=EM (.slice (some ⟨b,o,none⟩) L c) (.slice kp j aC) W.heap.size k fo) (w0:=(((aM W U aW).alloc (.cells fa 85)).alloc (.cells #[.int .i64 k,.string text,.slice kp j aC,.int .i64 place] 30))) ak ak kK ?_ ?_ _ ((Below.refl _ _).drew)
    ·exact Sb
    ·have Sc:=trivial;exact YU
   |true=>
    replace sB:Hid (∀W',Below w.heap.size w W'→Calls Tryz.prog 92 #[.slice (some ⟨b,o,none⟩) L c,.slice kp j aC,str fo] W' fun e w'=>e=.returned (.tuple #[])∧Below W'.heap.size W' w'):=sB;cases tb with
    |false=>
     go_wp2;refine wp_region_any ak ?_;refine Am.di _ 7 rfl ak ?_;simp only [List.take_succ_cons,List.take_zero];refine Am.fE (Φ:=EM (.slice (some ⟨b,o,none⟩) L c) (.slice kp j aC) W.heap.size k fo) (w0:=(((aM W U aW).alloc (.cells fa 85)).alloc (.cells #[.int .i64 k,.string text,.slice kp j aC,.int .i64 place] 30))) ak ak kK ?_ ?_ _ ((Below.refl _ _).drew)
     ·exact Sb
     ·have Sg:=trivial;exact YU
    |true=>
     cases eb with
     |false=>
      replace yc:Hid (∀W',Below w.heap.size w W'→Calls Tryz.prog 94 #[.slice (some ⟨b,o,none⟩) L c,.agg #[.int .i64 (k:Int),.string text,.slice kp j aC,.int .i64 place]] W' fun e w'=>e=.panicked thrown∧Below W'.heap.size W' w'):=hid (yc.out rfl rfl);go_wp2;refine wp_region_any ak ?_;refine Am.di _ 7 rfl ak ?_;simp only [List.take_succ_cons,List.take_zero];refine Am.fE (Φ:=EM (.slice (some ⟨b,o,none⟩) L c) (.slice kp j aC) W.heap.size k fo) (w0:=(((aM W U aW).alloc (.cells fa 85)).alloc (.cells #[.int .i64 k,.string text,.slice kp j aC,.int .i64 place] 30))) ak ak kK ?_ ?_ _ ((Below.refl _ _).drew)
      ·exact Sb
      ·have Sh:=trivial;exact YU
     |true=>
      replace yc:Hid (∀W',Below w.heap.size w W'→Calls Tryz.prog 94 #[.slice (some ⟨b,o,none⟩) L c,.agg #[.int .i64 (k:Int),.string text,.slice kp j aC,.int .i64 place]] W' fun e w'=>e=.returned (.tuple #[])∧Below W'.heap.size W' w'):=hid (yc.out rfl rfl);go_wp2;refine wp_region_any ak ?_;refine Am.di _ 7 rfl ak ?_;simp only [List.take_succ_cons,List.take_zero];refine Am.fE (Φ:=EM (.slice (some ⟨b,o,none⟩) L c) (.slice kp j aC) W.heap.size k fo) (w0:=(((aM W U aW).alloc (.cells fa 85)).alloc (.cells #[.int .i64 k,.string text,.slice kp j aC,.int .i64 place] 30))) ak ak kK ?_ ?_ _ ((Below.refl _ _).drew)
      ·exact Sb
      ·have Si:=trivial;exact acX
end Go.Proofs.YtbgjanmheagilaaGreatDoor
/- A part of the proof. Conditions: none. -/
set_option maxRecDepth 100000
set_option maxHeartbeats 8000000
namespace Go.Proofs.YtbgjanmheagilaaGreatDoor
open Go Go.RowKit Go.Nodes
theorem Df (W:World) (A:Nat) (fa:Array Value) (hA:W.heap[A]?=some (.cells fa 85 (0,0))) (hs:fa.size=37):(Instr.loadAt 85 (.pointer (some ⟨A,0,none⟩))).run Tryz.prog W=.ok (.agg fa) W:=by
 have h:=run_loadVar_row (P:=Tryz.prog) W A 85 85 fa (0,0) _ hA Tryz.underlying85 rfl (by rw [hs];kernel_rfl);unfold Instr.loadAt;simp [Instr.sureAddr,h]
theorem GW {ops:Array Oper} {rest:List Oper} {o:Oper} {a:Act} {w:World} {Q:Exit→Act→World→Prop} {A:Nat} {fa:Array Value} (hg:o.guard=none) (x:Operand) (ho:o.op=Op.load 85 x) (hx:a.eval x=.pointer (some ⟨A,0,none⟩))
  (hld:(Instr.loadAt 85 (.pointer (some ⟨A,0,none⟩))).run Tryz.prog w=.ok (.agg fa) w) (h:wpList Tryz.prog ops Q rest (a.put o.dst (.agg fa)) w):wpList Tryz.prog ops Q (o::rest) a w:=
 wpList_plain hg fun K hK=>by
  unfold Oper.wp execOp;simp only [ho,hx,hld,Sem.run_bind,Sem.run_pure,Result.andThen_ok];exact hK _ _ h
theorem JC (W:World) (LB NB UB AB:Nat) (l n u:Value) (fa:Array Value) (hL:W.cell? ⟨LB,0,none⟩=some l) (hN:W.cell? ⟨NB,0,none⟩=some n) (hU:W.cell? ⟨UB,0,none⟩=some u) (hA:W.heap[AB]?=some (.cells fa 85 (0,0))) (hs:fa.size=37)
  (S:World→Prop) (h:Calls Tryz.prog 57 #[l,n,u,.agg fa] W fun e w'=>e=.panicked thrown∧S w'):
  Calls Tryz.prog 56 #[.pointer (some ⟨LB,0,none⟩),.pointer (some ⟨NB,0,none⟩),.pointer (some ⟨UB,0,none⟩),.pointer (some ⟨AB,0,none⟩)] W fun e w'=>e=.panicked thrown∧S w':=by
 have hld:=hid (Df W AB fa hA hs);have H:=hid h;clear h hA;go_enter Tryz.func56,Tryz.ntmps56;go_wp2_with (first
  |(refine GW rfl _ rfl rfl hld.out ?_)
  |(go_at_call 57;((with_reducible refine H.out.mono ?_));rintro e w' ⟨rfl,hb⟩))
 exact⟨rfl,rfl,hb⟩
theorem FJ (W:World) (LB NB UB AB:Nat) (l n u:Value) (fa:Array Value) (hL:W.cell? ⟨LB,0,none⟩=some l) (hN:W.cell? ⟨NB,0,none⟩=some n) (hU:W.cell? ⟨UB,0,none⟩=some u) (hA:W.heap[AB]?=some (.cells fa 85 (0,0))) (hs:fa.size=37)
  (S:World→Prop) (h:Calls Tryz.prog 57 #[l,n,u,.agg fa] W fun e w'=>e=.returned (.tuple #[])∧S w'):
  Calls Tryz.prog 56 #[.pointer (some ⟨LB,0,none⟩),.pointer (some ⟨NB,0,none⟩),.pointer (some ⟨UB,0,none⟩),.pointer (some ⟨AB,0,none⟩)] W fun e w'=>e=.returned (.tuple #[])∧S w':=by
 have hld:=hid (Df W AB fa hA hs);have H:=hid h;clear h hA;go_enter Tryz.func56,Tryz.ntmps56;go_wp2_with (first
  |(refine GW rfl _ rfl rfl hld.out ?_)
  |(go_at_call 57;((with_reducible refine H.out.mono ?_));rintro e w' ⟨rfl,hb⟩))
 go_end0;exact⟨rfl,hb⟩
theorem GX (B:Nat):(#[Value.pointer (some ⟨B,0,none⟩)]++Array.replicate (Tryz.f90.ntmps - #[Value.pointer (some ⟨B,0,none⟩)].size) undef)=#[.pointer (some ⟨B,0,none⟩),undef,undef,undef,undef,undef,undef,undef,undef,undef,undef,undef,undef,undef,undef]:=by
 rw [Tryz.ntmps90];rfl
theorem AK (B:Nat) (x:Bool) (Xm:List PanicEntry) (w:World) (hc:w.cell? ⟨B,0,none⟩=some (.bool x)) (hz:w.frozen? ⟨B,0,none⟩=false) (hB:B<w.heap.size):
  CallsD Tryz.prog 90 #[.pointer (some ⟨B,0,none⟩)] (.panicking ({v:=.iface 112 (.agg #[]),recovered:=false}::Xm)) w fun e u' w'=>
   e=.returned (.tuple #[])∧u'=.panicking ({v:=.iface 112 (.agg #[]),recovered:=true}::Xm)∧w'=(w.setCell ⟨B,0,none⟩ (.bool false)).alloc (.cells #[] 112):=by
 refine callsD_of_wpS Tryz.func90 rfl fun c₀ cs hu=>?_
 rw [GX];apply wpS_seq;apply wpS_region;simp [wpOpsS,go_sem,recoverD,hu,Exit.thenS];refine wpS_of_wp ?_;have hta:∀w,(Instr.typeAssert (.iface 112 (.agg #[])) 20 112 true).run Tryz.prog w=.ok (.tuple #[.agg #[],.bool true]) w:=fun _=>by kernel_rfl
 go_wp2;cases c₀
 simp_all [bodyPostS,results,Tryz.results90]
theorem FL (B:Nat) (w:World):
  CallsD Tryz.prog 90 #[.pointer (some ⟨B,0,none⟩)] .returning w fun e u' w'=>e=.returned (.tuple #[])∧u'=.returning∧w'=w:=by
 refine callsD_of_wpS Tryz.func90 rfl fun c₀ cs hu=>?_
 rw [GX];apply wpS_seq;apply wpS_region;simp [wpOpsS,go_sem,recoverD,hu,Exit.thenS];refine wpS_of_wp ?_;go_wp2;cases c₀
 simp_all [bodyPostS,results,Tryz.results90]
theorem JD (a b c d:Value) (W:World) (U:Nat) (aW:List Bool) (hU:U<W.heap.size) (h:Calls Tryz.prog 56 #[a,b,c,d] (W.alloc (.cells #[.bool false] 4)) fun e w'=>e=.returned (.tuple #[])∧∃g,w'=grow (aM (W.alloc (.cells #[.bool false] 4)) U aW) g):
  Calls Tryz.prog 55 #[.func (.func 56) #[] #[a,b,c,d]] W fun e w'=>e=.returned (.bool true)∧∃g,w'=grow (aM W U aW) g:=by
 have hmf:∀(fn:Fn) (first cap:Array Value) (w:World),(Instr.makeFunc fn first cap).run Tryz.prog w=.ok (.func fn first cap) w:=fun _ _ _ _=>rfl
 have H:=hid h;have hne:¬W.heap.size=U:=aa;have hR:=hid (dM W (.cells #[.bool false] 4) U aW hU);clear h;go_enter_defers Tryz.func55,Tryz.ntmps55;go_wp2_with (go_at_call 56;((with_reducible refine H.out.mono ?_));rintro e w' ⟨rfl,g,rfl⟩;rw [hR.out]);refine leaves_cons (f:=90) (args:=#[.pointer (some ⟨W.heap.size,0,none⟩)]) ai (by simp [go_sem]) ?_;refine(FL W.heap.size _).mono ?_;rintro e u' w'' ⟨rfl,rfl,rfl⟩;obtain⟨g9,h9⟩:=aA (show Below (aM W U aW).heap.size (aM W U aW) (grow ((aM W U aW).alloc (.cells #[.bool true] 4)) g) by repeat (first|exact Below.refl _ _|refine bG ?_ _|refine bA ?_ _));have H9:=hid h9;clear h9;simp [Leaves,settle,results,Tryz.results55,go_sem];exact⟨g9,H9.out⟩
theorem Pr (a b c d:Value) (W:World) (U:Nat) (hU:U<W.heap.size) (h:Calls Tryz.prog 56 #[a,b,c,d] (W.alloc (.cells #[.bool false] 4)) fun e w'=>e=.panicked thrown∧∃aW g,w'=grow (aM (W.alloc (.cells #[.bool false] 4)) U aW) g):
  Calls Tryz.prog 55 #[.func (.func 56) #[] #[a,b,c,d]] W fun e w'=>e=.returned (.bool false)∧∃aW g,w'=grow (aM W U aW) g:=by
 have hmf:∀(fn:Fn) (first cap:Array Value) (w:World),(Instr.makeFunc fn first cap).run Tryz.prog w=.ok (.func fn first cap) w:=fun _ _ _ _=>rfl
 have H:=hid h;have hne:¬W.heap.size=U:=aa;have hR:=hid (fun aW=>dM W (.cells #[.bool false] 4) U aW hU);clear h;go_enter_defers Tryz.func55,Tryz.ntmps55;go_wp2_with (go_at_call 56;((with_reducible refine H.out.mono ?_));rintro e w' ⟨rfl,aW,g,rfl⟩;rw [hR.out]);refine leaves_cons (f:=90) (args:=#[.pointer (some ⟨W.heap.size,0,none⟩)]) ai (by simp [go_sem]) ?_;refine(AK W.heap.size false [] _ ?_ ?_ ?_).mono ?_
 ·simp [go_sem]
 ·simp [go_sem]
 ·simp;omega
 rintro e u' w'' ⟨rfl,rfl,rfl⟩;have h9:Below (aM W U aW).heap.size (aM W U aW) ((grow ((aM W U aW).alloc (.cells #[.bool false] 4)) g).setCell ⟨W.heap.size,0,none⟩ (.bool false)|>.alloc (.cells #[] 112)):=bA (bS (bG (bA (Below.refl _ _) _) _) _ _ _ ai) _;simp [go_sem] at h9;have H9:=hid h9;clear h9;simp [Leaves,settle,results,Tryz.results55,go_sem];obtain⟨g9,hg⟩:=aA (w:=aM W U aW) (by rw [oQ];exact H9.out);exact⟨aW,g9,hg⟩
end Go.Proofs.YtbgjanmheagilaaGreatDoor
/- A part of the proof. Conditions: none. -/
set_option maxRecDepth 100000
set_option maxHeartbeats 8000000
namespace Go.Proofs.YtbgjanmheagilaaGreatDoor
open Go Go.RowKit Go.Nodes
noncomputable def Po:Array Value:=(kI.map fun l=>Value.string ⟨l.toArray⟩).toArray
def rK:Array Value:=(List.replicate 37 (Value.string ⟨#[]⟩)).toArray
theorem aaE (k:Nat) (h1:1≤k) (h2:k≤36):Po[k]?=some (str (aI k)):=by
 unfold Po;have h:k<kI.length:=by rw [show kI.length=37 by decide];omega
 simp [aI,List.getD,List.getElem?_eq_getElem h,str]
theorem Ub (ev : Operand → Value) (w : World) : (execOp ev { dst := some 4, op := Op.alloc 69, type := 0, pos := "tree.go:208", after := #[], guard := none }).run Tryz.prog w = .ok (.value (.pointer (some ⟨w.heap.size, 0, none⟩))) (w.alloc (.cells #[.slice none 0 0] 69)) := by kernel_rfl
theorem Uc (ev : Operand → Value) (w : World) : (execOp ev { dst := some 5, op := Op.alloc 85, type := 0, pos := "tree.go:208", after := #[], guard := none }).run Tryz.prog w = .ok (.value (.pointer (some ⟨w.heap.size, 0, none⟩))) (w.alloc (.cells rK 85)) := by kernel_rfl
theorem Xl {A B:Array Value} {s t:TypeId} {o:Option Obj} (h1:o=some (.cells A s (0,0))) (h2:o=some (.cells B t (0,0))) (hst:¬s=t):False:=by
 rw [h1] at h2;exact hst (Obj.cells.inj (Option.some.inj h2)).2.1
theorem JB {B g:Nat} {w0 w:World} (hb:Below B w0 w) (hBg:B≤g) (cs:Array Value):Below B w0 (w.setRow g cs):=by
 obtain⟨h1,h2,h3,h4,h5⟩:=hb;exact⟨h1,h2,h3,by simpa using h4,fun k hk=>by rw [setRow_other _ _ _ _ aa];exact h5 k hk⟩
theorem FH {w w':World} {U:Nat} {o:Obj} (hb:Below w.heap.size w w') (h:w.heap[U]?=some o):w'.heap[U]?=some o:=(hb.block _ (Array.getElem?_eq_some_iff.1 h).1).trans h
def Ud (S:Value) (L B:Nat):Nat→World→Value→Prop
 |0,w,v=>v=S
 |1,w,v=>v=.int .i64 L
 |2,w,v=>∃U:Nat,v=.slice (some ⟨U,0,none⟩) L L∧w.heap[U]?=some (.cells ((List.replicate L false).map Value.bool).toArray 4 (0,0))∧B≤U
 |3,w,v=>v=uW
 |4,w,v=>∃U:Nat,v=.pointer (some ⟨U,0,none⟩)∧w.heap[U]?=some (.cells #[.slice none 0 0] 69 (0,0))∧B≤U
 |_,w,v=>∃U:Nat,v=.pointer (some ⟨U,0,none⟩)∧w.heap[U]?=some (.cells rK 85 (0,0))∧B≤U
theorem FI {S:Value} {L B:Nat}:∀(k:Nat) (w w':World) (v:Value),Below w.heap.size w w'→Ud S L B k w v→Ud S L B k w' v:=by
 intro k w w' v hb h;unfold Ud at*;split at h<;>first|exact h|exact(fun⟨U,e,hh,hB⟩=>⟨U,e,FH hb hh,hB⟩) h
theorem Pp (w W:World) (p:Option Addr) (c:Nat) (ns:List Nd) (hs:Small ns) (hc:eZ ns) (ha:aj w p ns) (hl0:bu w) (n:Nat) (hn:n<ns.length) (hv:iZ ns n)
  (K1 K2 U:Nat) (us:List Bool) (g:eo) (VE:us.length=ns.length) (hW:Below w.heap.size w W) (hU:w.heap.size<U) (hU2:U<W.heap.size) (n1:¬K1=U) (n2:¬K2=U)
  (hL:W.heap[w.heap.size]?=some (.cells #[.slice p ns.length c] 22 (0,0))) (Pq:W.heap[K1]?=some (.cells #[.slice (some ⟨U,0,none⟩) ns.length ns.length] 69 (0,0))) (hK2:W.heap[K2]?=some (.cells Po 85 (0,0))):
  Calls Tryz.prog 55 #[.func (.func 56) #[] #[.pointer (some ⟨w.heap.size,0,none⟩),.pointer (some ⟨W.heap.size+g.size,0,none⟩),.pointer (some ⟨K1,0,none⟩),.pointer (some ⟨K2,0,none⟩)]]
   ((grow (aM W U us) g).alloc (.cells #[.int .i64 (n:Int)] 3)) fun e w'=>match gL ns ns[n] n us with
    |none=>e=.returned (.bool false)∧∃aW g2,w'=grow ((grow (aM W U aW) g).alloc (.cells #[.int .i64 (n:Int)] 3)) g2
    |some aW=>e=.returned (.bool true)∧∃g',w'=grow (aM W U aW) g':=by
 have lt1:=(Array.getElem?_eq_some_iff.1 Pq).1;have lt2:=(Array.getElem?_eq_some_iff.1 hK2).1;have lt0:=(Array.getElem?_eq_some_iff.1 hL).1;have AY:¬w.heap.size=U:=aa;obtain⟨X,hX⟩:∃X,X=(grow W g).alloc (.cells #[.int .i64 (n:Int)] 3):=⟨_,rfl⟩;have hXe:((grow (aM W U us) g).alloc (.cells #[.int .i64 (n:Int)] 3))=aM X U us:=by rw [hX,dM _ _ _ _ aV,oU _ _ _ _ hU2]
 have hXb:Below w.heap.size w X:=by rw [hX];exact bA (bG hW _) _
 have hXs:U<X.heap.size:=by rw [hX];simp;omega
 have old:∀k o,¬k=U→W.heap[k]?=some o→((aM X U us).alloc (.cells #[.bool false] 4)).heap[k]?=some o:=fun k o hk h=>by
  have hlt:=(Array.getElem?_eq_some_iff.1 h).1;rw [heap_alloc_old _ _ (by rw [oQ,hX];simp;omega),kO _ _ _ _ hk,hX,heap_alloc_old _ _ aV,dS _ _ _ hlt];exact h
 have cell0:∀(Y:World) (k:Nat) (v:Value) (t:TypeId),Y.heap[k]?=some (.cells #[v] t (0,0))→Y.cell? ⟨k,0,none⟩=some v:=fun Y k v t h=>by simp [World.cell?,h]
 have hcN:((aM X U us).alloc (.cells #[.bool false] 4)).cell? ⟨W.heap.size+g.size,0,none⟩=some (.int .i64 (n:Int)):=by
  refine cell0 _ _ _ 3 ?_;rw [heap_alloc_old _ _ (by rw [oQ,hX];simp),kO _ _ _ _ aa,hX];have:=heap_alloc_new (grow W g) (.cells #[.int .i64 (n:Int)] 3);simpa using this
 rw [hXe];have hlk:=Nb w (X.alloc (.cells #[.bool false] 4)) p c ns hs hc ha hl0 n hn hv Po aaE U ns.length us VE (bA hXb _) aa aV;rw [dM _ _ _ _ hXs] at hlk;have hrow:∀aW,aM ((aM X U us).alloc (.cells #[.bool false] 4)) U aW=aM (X.alloc (.cells #[.bool false] 4)) U aW:=fun aW=>by
  rw [←dM _ _ _ _ hXs,mQ]
 have aea:Po.size=37:=by unfold Po;rw [List.size_toArray,List.length_map];decide
 cases Ue:gL ns ns[n] n us with
 |none=>
  rw [Ue] at hlk;refine(Pr _ _ _ _ (aM X U us) U (by simpa using hXs) ?_).mono fun e w' ⟨he,aW,g2,hw⟩=>⟨he,aW,g2,by rw [hw,mQ,hX,dM _ _ _ _ aV,oU _ _ _ _ hU2]⟩
  exact JC _ _ _ _ _ _ _ _ _ (cell0 _ _ _ 22 (old _ _ AY hL)) hcN (cell0 _ _ _ 69 (old _ _ n1 Pq)) (old _ _ n2 hK2) aea _ (hlk.mono fun e w' ⟨he,aW,g2,hw⟩=>⟨he,aW,g2,by rw [hrow,hw]⟩)
 |some aW=>
  rw [Ue] at hlk;refine(JD _ _ _ _ (aM X U us) U aW (by simpa using hXs) ?_).mono fun e w' ⟨he,g2,hw⟩=>⟨he, ?_⟩
  ·exact FJ _ _ _ _ _ _ _ _ _ (cell0 _ _ _ 22 (old _ _ AY hL)) hcN (cell0 _ _ _ 69 (old _ _ n1 Pq)) (old _ _ n2 hK2) aea _ (hlk.mono fun e w' ⟨he,g2,hw⟩=>⟨he,g2,by rw [hrow,hw]⟩)
  ·rw [mQ] at hw;have h9:Below (aM W U aW).heap.size (aM W U aW) w':=by
    rw [hw,hX,dM _ _ _ _ aV,oU _ _ _ _ hU2];exact bG (bA (bG (Below.refl _ _) _) _) _
   exact aA h9
theorem wC {ns l:List Nd} {x:Nd} {n:Nat} {us:List Bool} (h:gL ns x n us=none):∃v,cz ns (x::l) n us=(some n,v):=by
 unfold gL at h;cases hk:bZ n x.kids us with
 |none=>exact⟨us,by unfold cz;simp only [hk]⟩
 |some aW=>
  rw [hk] at h;simp only at h;cases ho:okB ns x with
  |true=>rw [ho] at h;cases h
  |false=>exact⟨aW,uA hk ho⟩
theorem wV {ns:List Nd} {x:Nd} {n:Nat} {us aW:List Bool} (h:gL ns x n us=some aW):bZ n x.kids us=some aW∧okB ns x=true:=by
 unfold gL at h;cases hk:bZ n x.kids us with
 |none=>rw [hk] at h;cases h
 |some us3=>
  rw [hk] at h;simp only at h;cases ho:okB ns x with
  |true=>rw [ho] at h;cases h;exact⟨rfl,rfl⟩
  |false=>rw [ho] at h;cases h
theorem rZ {ns:List Nd} {x:Nd} {n:Nat} {us aW:List Bool} (hk:bZ n x.kids us=some aW) (ho:okB ns x=true):B2 ns n x:=by
 unfold okB at ho;simp only [Bool.and_eq_true,decide_eq_true_eq] at ho;exact⟨ho.1.1.2.1.1,ho.1.1.2.1.2,ho.1.1.1,fF n x.kids us aW hk,ho.1.1.2.2,ho.1.2,ho.2⟩
theorem xd (w:World) (p:Option Addr) (c:Nat) (ns:List Nd) (hs:Small ns) (hc:eZ ns) (ha:aj w p ns) (hl0:bu w):
  Calls Tryz.prog 27 #[.slice p ns.length c] w (pn (aS ns).1 (aS ns).2 w):=by
 have Ha:=hid ha;have Hs:=hid hs;have Hc:=hid hc;have Hl:=hid hl0;clear ha hs hc hl0;obtain⟨L,hL⟩:∃L,L=ns.length:=⟨_,rfl⟩;rw [←hL];have hL5:(L:Int)≤5000:=by have:=Hs.out.1;omega
 have HL:=hid hL;clear hL;go_enter Tryz.func27,Tryz.ntmps27;go_wp2;refine wp_region_any ak ?_;refine Am.di _ 7 rfl ak ?_;simp only [List.take_succ_cons,List.take_zero];refine Am.di _ 6 rfl ak ?_;simp only [List.take_succ_cons,List.take_zero];refine Am.fE (Φ:=Ud (.slice p L c) L (w.heap.size+1)) (w0:=(w.alloc (.cells #[.slice p L c] 22))) ak ak FI ?_ ?_ _ ((Below.refl _ _).drew)
 ·intro kq o ca w1 ho hb aJ K hK;have hc0:w1.cell? ⟨w.heap.size,0,none⟩=some (.slice p L c):=(hb.cell (p:=⟨_,0,none⟩) ai).trans (by simp [go_sem]);have hBs:w.heap.size+1≤w1.heap.size:=by have:=hb.size;simpa using this
  have hfn:∀f,ca.eval (.func f)=.func (.func f) #[] #[]:=fun _=>rfl
  have hcs:∀v,ca.eval (.const v)=v:=fun _=>rfl
  rcases kq with _|_|_|_|_|_|kq
  ·cases ho;have dw:=Am.lo 1 aJ rfl;exact VN
  ·cases ho;have dw:=Am.lk 13 0 aJ fun _=>rfl
   refine Am.rv rfl rfl (hK _ _ (Below.refl _ _) rfl) ?_;exact Ex
  ·cases ho;have dw:=Am.lk 14 1 aJ fun _=>rfl
   obtain⟨iB,YI,YJ,YK,YL⟩:=info_parts Tryz.MG;have EX:=run_make (P:=Tryz.prog) w1 69 4 iB (.bool false) Tryz.underlying69 YI YJ .i64 .i64 (L:Int) (L:Int) aa (Int.le_refl _) (by rw [YL];omega) aa;have hmc:madeCells (Value.bool false).cells ((L:Int).toNat*iB.size)=((List.replicate L false).map Value.bool).toArray:=by
    rw [YK,Int.toNat_natCast,Nat.mul_one];apply Array.toList_inj.1;rw [show(Value.bool false).cells=#[Value.bool false] from rfl,toList_madeCells_one,List.map_replicate]
   rw [hmc,Int.toNat_natCast] at EX;refine Am.cq rfl rfl (Am.dx (v:=.slice (some ⟨w1.heap.size,0,none⟩) L L) (w':=w1.alloc (.cells ((List.replicate L false).map Value.bool).toArray 4)) ?_ (hK _ _ ((Below.refl _ _).alloc (Nat.le_refl _) _) ⟨w1.heap.size,rfl,heap_alloc_new _ _,hBs⟩));generalize ca.eval=ev at*;simp [execOp,dw,EX]
  ·cases ho;refine Am.cq rfl rfl (Am.Pt (w':=w1) (f:=54) (args:=#[]) ?_ ((Jw w1).mono ?_))
   ·exact Es
   ·rintro e w' ⟨rfl,hb'⟩;exact⟨_,rfl,hK _ _ hb' rfl⟩
  ·cases ho;refine Am.cq rfl rfl (Am.dx (v:=.pointer (some ⟨w1.heap.size,0,none⟩)) (w':=w1.alloc (.cells #[.slice none 0 0] 69)) ?_ (hK _ _ ((Below.refl _ _).alloc (Nat.le_refl _) _) ⟨w1.heap.size,rfl,heap_alloc_new _ _,hBs⟩));exact Ub _ w1
  ·cases ho;refine Am.cq rfl rfl (Am.dx (v:=.pointer (some ⟨w1.heap.size,0,none⟩)) (w':=w1.alloc (.cells rK 85)) ?_ (hK _ _ ((Below.refl _ _).alloc (Nat.le_refl _) _) ⟨w1.heap.size,rfl,heap_alloc_new _ _,hBs⟩));exact Uc _ w1
  ·simp at ho
 ·intro ca w1 hb hd hs dB fM;obtain⟨U,HZ,hU,hU0⟩:∃U:Nat,ca.tmps.getD 15 undef=.slice (some ⟨U,0,none⟩) L L∧w1.heap[U]?=some (.cells ((List.replicate L false).map Value.bool).toArray 4 (0,0))∧w.heap.size+1≤U:=dB 2 _ 15 rfl rfl;have h16:ca.tmps.getD 16 undef=uW:=dB 3 _ 16 rfl rfl;obtain⟨K1,h4,Pq,amu⟩:∃U:Nat,ca.tmps.getD 4 undef=.pointer (some ⟨U,0,none⟩)∧w1.heap[U]?=some (.cells #[.slice none 0 0] 69 (0,0))∧w.heap.size+1≤U:=dB 4 _ 4 rfl rfl;obtain⟨K2,h5,hK2,amv⟩:∃U:Nat,ca.tmps.getD 5 undef=.pointer (some ⟨U,0,none⟩)∧w1.heap[U]?=some (.cells rK 85 (0,0))∧w.heap.size+1≤U:=dB 5 _ 5 rfl rfl;have jM:=Am.jN hd hs fM;simp only [List.foldl_cons,List.foldl_nil,HZ,h16,h4,h5] at jM;generalize ca.tmps.getD 13 undef=x13 at jM;generalize ca.tmps.getD 14 undef=x14 at jM;subst jM;simp only [List.setIfInBounds_toArray,List.set_cons_succ,List.set_cons_zero];have n12:¬K1=K2:=fun e=>by rw [e,hK2] at Pq;cases Pq
  have n13:¬K1=U:=fun e=>Xl (e ▸ Pq) hU ay
  have n23:¬K2=U:=fun e=>Xl (e ▸ hK2) hU ay
  have hfs:Hid (uW=.agg Po):=hid rfl;have hW:w1.heap[w.heap.size]?=some (.cells #[.slice p L c] 22 (0,0)):=(hb.block _ ai).trans (by simpa using heap_alloc_new w (.cells #[.slice p L c] 22));have UQ:Below w.heap.size w w1:=(bA (Below.refl _ _) (.cells #[.slice p L c] 22)).trans (hb.mono ai);clear hb hd hs dB fM HZ h16 h4 h5;simp only [Am.jQ];have hc1:w1.cell? ⟨K1,0,none⟩=some (.slice none 0 0):=by simp [World.cell?,Pq]
  have hz1:w1.frozen? ⟨K1,0,none⟩=false:=by simp [World.frozen?,Pq]
  have k2b:Hid ((w1.setCell ⟨K1,0,none⟩ (.slice (some ⟨U,0,none⟩) L L)).heap[K2]?=some (.cells rK 85 (0,0))):=hid (by rw [Below.heap_setCell _ _ _ _ (fun e=>n12 e.symm)];exact hK2);have HK1:=hid Pq;have HK2:=hid hK2;have HU:=hid hU;have HW:=hid hW;have aeb:=hid UQ;have aec:Hid ((Tryz.prog.info? 85).map (·.size)=some Po.size):=hid ak;clear Pq hK2 hU hW UQ;go_wp2;simp only [Am.jQ];refine wpList_store_row rfl 85 _ _ rfl K2 Po rfl rfl 85 rK k2b.out aec.out ay cZ ?_;obtain⟨Wx,hWx⟩:∃Wx,Wx=(w1.setCell ⟨K1,0,none⟩ (.slice (some ⟨U,0,none⟩) L L)).setRow K2 Po:=⟨_,rfl⟩;rw [←hWx];have hx1:Wx.heap[K1]?=some (.cells #[.slice (some ⟨U,0,none⟩) L L] 69 (0,0)):=by
   rw [hWx,setRow_other _ _ _ _ n12];simp [World.setCell,Array.getElem?_modify,HK1.out]
  have hx2:Wx.heap[K2]?=some (.cells Po 85 (0,0)):=by rw [hWx];exact setRow_heap _ _ _ _ _ _ k2b.out
  have hxU:Wx.heap[U]?=some (.cells ((List.replicate L false).map Value.bool).toArray 4 (0,0)):=by
   rw [hWx,setRow_other _ _ _ _ (fun e=>n23 e.symm),Below.heap_setCell _ _ _ _ (fun e=>n13 e.symm)];exact HU.out
  have Xj:Wx.heap[w.heap.size]?=some (.cells #[.slice p L c] 22 (0,0)):=by
   rw [hWx,setRow_other _ _ _ _ aa,Below.heap_setCell _ _ _ _ aV];exact HW.out
  have hxB:Below w.heap.size w Wx:=by rw [hWx];exact JB (bS aeb.out _ _ _ aa) aa _
  clear hWx HK1 HK2 HU HW aeb k2b aec hc1 hz1;have cL:Wx.cell? ⟨w.heap.size,0,none⟩=some (.slice p L c):=by simp [World.cell?,Xj]
  have cK:Wx.cell? ⟨K1,0,none⟩=some (.slice (some ⟨U,0,none⟩) L L):=by simp [World.cell?,hx1]
  have ltL:=(Array.getElem?_eq_some_iff.1 Xj).1;have ltU:=(Array.getElem?_eq_some_iff.1 hxU).1;have ltK:=(Array.getElem?_eq_some_iff.1 hx1).1;have nLU:¬w.heap.size=U:=aa;have Hx1:=hid hx1;have Hx2:=hid hx2;have HxU:=hid hxU;have HxL:=hid Xj;have Gi:=hid hxB;clear hx1 hx2 hxU Xj hxB;go_wp2;go_loopw [19] (fun i wr=>∃(n:Nat) (us:List Bool) (g:eo),n≤L∧i=.int .i64 n∧wr=grow (aM Wx U us) g∧us.length=L∧Hid (iZ ns n∧cz ns (ns.drop n) n us=cz ns ns 0 (List.replicate L false))) (fun i _=>L - (intOf i).toNat)
  case atStart=>exact⟨0,List.replicate L false,_,by omega,rfl,by rw [E8 _ _ _ HxU.out];exact(cW _).symm,by simp,hid ⟨fun i x h=>absurd h aa,rfl⟩⟩
  case round=>
   obtain⟨n,us,g,hn,rfl,rfl,Ll,hR⟩:=hrel;by_cases hlt:n<L
   ·have eO:n<ns.length:=by have:=HL.out;omega
    have hstep:=Pp w Wx p c ns Hs.out Hc.out Ha.out Hl.out n eO hR.out.1 K1 K2 U us g dG Gi.out aa ltU n13 n23 (by rw [←HL.out];exact HxL.out) (by rw [←HL.out];exact Hx1.out) Hx2.out;have hdr:ns.drop n=ns[n]::ns.drop (n+1):=List.drop_eq_getElem_cons eO;have n0:(0:Int)≤(n:Int):=aa;have n1:(n:Int)<(L:Int):=aa;have hmf:∀(fn:Fn) (first cap:Array Value) (w:World),(Instr.makeFunc fn first cap).run Tryz.prog w=.ok (.func fn first cap) w:=fun _ _ _ _=>rfl
    cases Ue:gL ns ns[n] n us with
    |none=>
     rw [Ue] at hstep;obtain⟨v,hv⟩:=wC (l:=ns.drop (n+1)) Ue;have Hb:=hid (ru (v:=v) (by rw [hR.out.2,HL.out]) (by rw [hdr];exact hv));have Pu:=hid hstep;clear hstep Ue hv hdr;go_wp2_with (go_at_call 55;((with_reducible refine Pu.out.mono ?_));rintro e w' ⟨rfl,us3,g2,rfl⟩);exact WD
    |some aW=>
     rw [Ue] at hstep;obtain⟨hk,ho⟩:=wV Ue;have PS:=rZ hk ho;have hlen:=rq n _ _ _ hk;have hsc:=zF (l:=ns.drop (n+1)) hk ho;rw [←hdr,hR.out.2] at hsc;have Hn:Hid (iZ ns (n+1)∧cz ns (ns.drop (n+1)) (n+1) aW=cz ns ns 0 (List.replicate L false)):=hid ⟨fun i x hi hx=>by
      by_cases F4:i<n
      ·exact hR.out.1 i x F4 hx
      ·obtain rfl:i=n:=by omega
       rw [List.getElem?_eq_getElem eO] at hx;cases hx;exact PS,hsc.symm⟩
     have Pu:=hid hstep;clear hstep Ue hdr hk ho PS hsc;go_wp2_with (go_at_call 55;((with_reducible refine Pu.out.mono ?_));rintro e w' ⟨rfl,g2,rfl⟩);go_roundw
     case rel=>exact⟨n+1,aW,g2,by omega,by go_num,rfl,by omega,Hn⟩
     case measure=>simp [intOf];omega
   ·obtain rfl:n=L:=by omega
    have dy:aS ns=if n=0 then((0:Int),(60:Int)) else if jA ns us then(if 200<eD ns then(0,61) else(0,0)) else((n:Int) - 1,60):=by
     exact ML
    by_cases AY:n=0
    ·rw [if_pos AY] at dy;have Hb:=hid dy;have A4:(n:Int) - 1<0:=aa;clear dy;go_wp2;exact WD
    rw [if_neg AY] at dy;have Hck:=hid dy;have A4:¬((n:Int) - 1<0):=aa;clear dy;go_wp2;go_loopw [34] (fun i wr=>∃(k:Nat) (g2:eo),k≤n∧i=.int .i64 k∧wr=grow (aM Wx U us) g2∧Hid (∀m<k,(decide ((ag ns m=1)↔(m+1=ns.length)) && decide (us.getD m false=decide (m+1≠ns.length)))=true)) (fun i _=>n - (intOf i).toNat)
    case atStart=>exact⟨0,g,by omega,rfl,rfl,hid fun m h=>absurd h aa⟩
    case round=>
     obtain⟨k,g2,hk,rfl,rfl,hK⟩:=hrel;by_cases XI:k<n
     ·have Bf:k<ns.length:=by have:=HL.out;omega
      obtain⟨b,o,rfl,hb,hx,hf,c0,c1,c2,c3⟩:=aY Ha.out Bf;have hka:=aR hx;rw [←hka] at c0;replace c0:=(Gi.out.cell (p:=⟨b,_,none⟩) hb).trans c0;replace c1:=(Gi.out.cell (p:=⟨b,_,none⟩) hb).trans c1;replace c2:=(Gi.out.cell (p:=⟨b,_,none⟩) hb).trans c2;replace c3:=(Gi.out.cell (p:=⟨b,_,none⟩) hb).trans c3;have bU:¬b=U:=aa;have bw:b<Wx.heap.size:=by have:=Gi.out.size;omega
      have acT:k<us.length:=aa;have Ga:us[k]?=some (us.getD k false):=MM;have hu2:us[k]=us.getD k false:=MM;have k0:(0:Int)≤(k:Int):=aa;have k1:(k:Int)<(n:Int):=aa;obtain⟨kd,cX⟩:∃kd,kd=ag ns (k:Int):=⟨_,rfl⟩;obtain⟨ub,fN⟩:∃ub,ub=us.getD k false:=⟨_,rfl⟩;rw [←cX] at c0;rw [←fN] at Ga hu2;have lF:=hid cX;have A0:=hid fN;clear hka cX fN hx hf;generalize ns[k]=x at*;have hno:¬((decide ((kd=1)↔(k+1=ns.length)) && decide (ub=decide (k+1≠ns.length)))=true)→aS ns=((n:Int) - 1,60):=fun h=>by
       exact MN
      have vh:(decide ((kd=1)↔(k+1=ns.length)) && decide (ub=decide (k+1≠ns.length)))=true→∀m<k+1,(decide ((ag ns m=1)↔(m+1=ns.length)) && decide (us.getD m false=decide (m+1≠ns.length)))=true:=fun h m hm=>by
       exact MO
      by_cases hd:kd=1
      ·subst hd;by_cases hlk:(k:Int)=(n:Int) - 1
       ·have eA:k+1=ns.length:=by have:=HL.out;omega
        have Dn:((k:Int)==(n:Int) - 1)=true:=aV;have P9:¬(k:Int)<(n:Int) - 1:=aa;clear hlk;cases ub with
        |true=>
         exact Nv
        |false=>
         have Hy:=hid (vh (by simp [eA]));obtain⟨g9,h9⟩:=aA (bA (bG (Below.refl _ (aM Wx U us)) g2) (.cells #[.int .i64 1,.string x.text,.slice x.kp x.kids.length x.aC,.int .i64 x.place] 30));exact NG
       ·have eA:¬k+1=ns.length:=by have:=HL.out;omega
        have Dn:=bK hlk;have P9:(k:Int)<(n:Int) - 1:=aa;clear hlk;cases ub with
        |true=>
         exact Nv
        |false=>
         exact Nv
      ·have zE:=bK hd;by_cases hlk:(k:Int)=(n:Int) - 1
       ·have eA:k+1=ns.length:=by have:=HL.out;omega
        have Dn:((k:Int)==(n:Int) - 1)=true:=aV;have P9:¬(k:Int)<(n:Int) - 1:=aa;clear hlk;cases ub with
        |true=>
         exact Nu
        |false=>
         exact Nu
       ·have eA:¬k+1=ns.length:=by have:=HL.out;omega
        have Dn:=bK hlk;have P9:(k:Int)<(n:Int) - 1:=aa;clear hlk;cases ub with
        |true=>
         have Hy:=hid (vh (by simp [eA,hd]));obtain⟨g9,h9⟩:=aA (bA (bG (Below.refl _ (aM Wx U us)) g2) (.cells #[.int .i64 kd,.string x.text,.slice x.kp x.kids.length x.aC,.int .i64 x.place] 30));exact NG
        |false=>
         exact Nu
     ·obtain rfl:k=n:=by omega
      have pz:jA ns us=true:=by
       exact MQ
      have dy:=Hck.out;rw [if_pos pz] at dy;have MR:Hid (∀W,Below w.heap.size w W→Calls Tryz.prog 58 #[.slice p k c] W fun e w'=>e=.returned (.int .i64 (eD ns))∧Below W.heap.size W w'):=hid fun W hW=>by
       have h:=KO p c ns W (aj.later Ha.out hW) Hs.out;rw [←HL.out] at h;exact h
      generalize eD ns=dp at*;by_cases F5:200<dp
      ·rw [if_pos F5] at dy;exact V4
      ·rw [if_neg F5] at dy;exact V4
end Go.Proofs.YtbgjanmheagilaaGreatDoor