/- A part of the proof. Conditions: none. -/
import Derived.Deep.RegionHeld3
import Derived.Deep.RegionWith
import Derived.Test.YtjchnliaglecoaaGreatDoorZz
import Derived.Test.YtjchnliaglecoaaGreatDoorRoX
import Derived.Test.YtjchnliaglecoaaGreatDoorAmSX
import Derived.Defers
import Derived.Recover
import Derived.Laws.Pointers
import Derived.Laws.Rows
set_option linter.unusedVariables false
set_option linter.unusedSimpArgs false
set_option maxRecDepth 100000
set_option maxHeartbeats 8000000
namespace Go.Proofs.YtjchnliaglecoaaGreatDoor
open Go Go.RowKit Go.Nodes
theorem Mo {k:Nat} (h1:1≤k) (h2:k≤36):bY k∈mH:=by
 have h:((List.range 37).all fun k=>Nat.beq k 0||decide (bY k∈mH))=true:=ew;have h3:=List.all_eq_true.1 h k (List.mem_range.2 aa);cases e:Nat.beq k 0 with
 |true=>have:=Nat.eq_of_beq_eq_true e;omega
 |false=>rw [e] at h3;simpa using h3
theorem SV {w:World} {p kp:Option Addr} {ns:List Nd} {kids:List Int} (ha:aA w p ns) (hf:bC w kp kids) (n:Nat) (hn:n≤ns.length) (hv:lu ns n) (fc:∀k∈kids,0≤k∧k<n):zA w p kp ns.length (bJ ns kids):=by
 intro i k hi;unfold bJ at hi;rw [List.getElem?_map] at hi;cases hg:kids[i]? with
 |none=>rw [hg] at hi;cases hi
 |some a=>
  rw [hg] at hi;simp only [Option.map_some,Option.some.injEq] at hi;obtain⟨lq,hga⟩:=List.getElem?_eq_some_iff.1 hg;have QC:=fc a (List.mem_of_getElem? hg);obtain⟨z,rfl⟩:∃z:Nat,a=(z:Int):=⟨a.toNat,by omega⟩;have hzl:z<ns.length:=aa;obtain⟨b2,o2,rfl,hb2,hx2,hf2,d0,d1,d2,d3⟩:=fq ha hzl;have hvz:=hv z _ aa hx2;rw [aY hx2] at hi;rcases hf with ix|⟨bk,ok,rfl,fu,fI⟩
  ·subst ix;simp at lq
  have h1:=hvz.k1;have h2:=hvz.yU;have uQ:=fI i lq;rw [hga] at uQ;refine⟨by omega,by omega,b2,o2,bk,ok,z,rfl,rfl,hb2,fu,hzl,uQ, ?_⟩;rw [d0,←hi];congr 2;omega
def DM (S ks:Value) (X kk:Nat) (fo:List UInt8):Nat→World→Value→Prop
 |0,w,v=>v=S
 |1,w,v=>v=.pointer (some ⟨X+1,2,none⟩)
 |2,w,v=>v=ks
 |3,w,v=>v=.pointer (some ⟨X+1,0,none⟩)
 |4,w,v=>v=.int .i64 kk
 |5,w,v=>v=.pointer (some ⟨X,kk,none⟩)
 |_,w,v=>v=str fo
theorem kI {S ks:Value} {X kk:Nat} {fo:List UInt8}:∀(k:Nat) (w w':World) (v:Value),Below w.heap.size w w'→DM S ks X kk fo k w v→DM S ks X kk fo k w' v:=by
 intro k w w' v hb h;unfold DM at*;split at h<;>first|exact h|exact h
def ia (ns:List Nd) (x:Nd) (n:Nat) (us:List Bool):Option (List Bool):=match dS n x.kids us with
 |none=>none
 |some cy=>if okB ns x then some cy else none
def uR (B:Nat) (w W:World) (U:Nat) (r:Option (List Bool)) (e:Ending) (w':World):Prop:=match r with
 |none=>e=.panicked thrown∧∃cy g,w'=grow (aO W U cy) g
 |some cy=>e=.returned (.tuple #[])∧∃g,w'=grow (aO W U cy) g
theorem qV {B:Nat} {w W:World} {U:Nat} {r:Option (List Bool)} {e:Ending} {w':World} (cy:List Bool) (hr:r=none) (he:e=.panicked thrown) (hb:Below (aO W U cy).heap.size (aO W U cy) w'):uR B w W U r e w':=by
 subst hr;obtain⟨g,hg⟩:=ay hb;exact⟨he,cy,g,hg⟩
theorem G6 {B:Nat} {w W:World} {U:Nat} {r:Option (List Bool)} {cy:List Bool} {e:Ending} {w':World} (hr:r=some cy) (he:e=.returned (.tuple #[])) (g:fk) (hb:w'=grow (aO W U cy) g):uR B w W U r e w':=by
 subst hr;exact⟨he,g,hb⟩
theorem Bp {ns:List Nd} {x:Nd} (h:¬(1≤x.kind∧x.kind≤36)):okB ns x=false:=by unfold okB;rw [decide_eq_false h];simp
theorem G7 {ns:List Nd} {x:Nd} (h:¬0≤x.place):okB ns x=false:=by unfold okB;rw [decide_eq_false h];simp
theorem uS {ns:List Nd} {x:Nd} {n:Nat} {us:List Bool} (h:okB ns x=false):ia ns x n us=none:=by
 unfold ia;cases dS n x.kids us with
 |none=>rfl
 |some u=>simp [h]
theorem Mp (w W:World) (p:Option Addr) (c:Nat) (ns:List Nd) (hs:Small ns) (hc:iN ns) (ha:aA w p ns) (hl0:cu w) (n:Nat) (hn:n<ns.length) (hv:lu ns n)
  (fa:Array Value) (hfa:∀k,1≤k→k≤36→fa[k]?=some (str (bY k))) (U:Nat) (uc:Nat) (us:List Bool) (hus:us.length=ns.length) (hW:Below w.heap.size w W) (hU:w.heap.size≤U) (hU2:U<W.heap.size):
  Calls Tryz.prog 92 #[.slice p ns.length c,.int .i64 (n:Int),.slice (some ⟨U,0,none⟩) ns.length uc,.agg fa] (aO W U us) (uR w.heap.size w W U (ia ns ns[n] n us)):=by
 obtain⟨b,o,rfl,hb,hx,hf,c0,c1,c2,c3⟩:=fq ha hn;have hsm:=hs.2 ns[n] (List.getElem_mem hn);have aX:=hc ns[n] (List.getElem_mem hn);have Ha:=hid ha;have Hs:=hid hs;have Hc:=hid hc;have Hl:=hid hl0;have Hv:=hid hv;have Hfa:=hid hfa;have HW:=hid hW;have e0:W.cell? ⟨b,o+n*4,none⟩=some (.int .i64 ns[n].kind):=(hW.cell (p:=⟨b,_,none⟩) hb).trans c0;have e1:W.cell? ⟨b,o+n*4+1,none⟩=some (.string ns[n].text):=(hW.cell (p:=⟨b,_,none⟩) hb).trans c1;have e2:W.cell? ⟨b,o+n*4+2,none⟩=some (.slice ns[n].kp ns[n].kids.length ns[n].aG):=(hW.cell (p:=⟨b,_,none⟩) hb).trans c2;have e3:W.cell? ⟨b,o+n*4+3,none⟩=some (.int .i64 ns[n].place):=(hW.cell (p:=⟨b,_,none⟩) hb).trans c3;have Hf:=hid hf.2.2.2.2.2;have hL5:(ns.length:Int)≤5000:=by have:=hs.1;omega
 have n0:(0:Int)≤(n:Int):=aa;have n1:(n:Int)<(ns.length:Int):=aa;have bU:¬b=U:=aa;have bw:b<W.heap.size:=aa;have Hx:=hid hx;clear c0 c1 c2 c3 ha hs hc hl0 hv hfa hW hf hx;obtain⟨L,hL⟩:∃L,L=ns.length:=⟨_,rfl⟩;rw [←hL] at hus hL5 n1 ⊢;have HL:=hid hL;clear hL;obtain⟨q,hq⟩:∃q,q=ns[n].kids.length:=⟨_,rfl⟩;rw [←hq] at e2;have iq:(q:Int)≤20000:=by have:=hsm.1;omega
 generalize hxx:ns[n]=x at*;obtain⟨kind,text,kp,aG,kids,place⟩:=x;simp only at hsm aX hq Hf e0 e1 e2 e3;have Hsm:=hid hsm;have af4:=hid aX;have Hq:=hid hq;have Hxx:=hid hxx;clear hsm aX hq hxx;have pz:Below w.heap.size w (aO W U us):=jr HW.out hU;have Hbw:=hid pz;clear pz;by_cases QI:kind≤0
 ·have hr:ia ns ⟨kind,text,kp,aG,kids,place⟩ n us=none:=uS (Bp (by simp only;omega));have Hr:=hid hr;clear hr;exact Mq
 by_cases abj:36<kind
 ·have hr:ia ns ⟨kind,text,kp,aG,kids,place⟩ n us=none:=uS (Bp (by simp only;omega));have Hr:=hid hr;clear hr;have abk:¬kind<37:=aa;exact Mq
 by_cases hpl:place<0
 ·have hr:ia ns ⟨kind,text,kp,aG,kids,place⟩ n us=none:=uS (G7 (by simp only;omega));have Hr:=hid hr;clear hr;have abk:kind<37:=aa;have ajt:0<kind:=aa;have ajj:¬0≤place:=aa;exact Mq
 obtain⟨k,rfl⟩:∃k:Nat,kind=(k:Int):=⟨kind.toNat,by omega⟩;have abk:(k:Int)<37:=aa;have ajt:(0:Int)<(k:Int):=aa;have aR:1≤k:=aa;have GU:k≤36:=aa;have aju:(0:Int)≤place:=aa;clear QI abj hpl;go_enter Tryz.func92,Tryz.ntmps92;go_wp2_with (go_at_call 139;((with_reducible refine(dU _).mono ?_));rintro e w' ⟨rfl,hw⟩;rw [hw];clear hw w');go_loopw [32] (fun i wr=>∃(j:Nat) (cy:List Bool),j≤q∧i=.int .i64 j∧cy.length=L∧
  wr=((aO W U cy).alloc (.cells fa 135)).alloc (.cells #[.int .i64 k,.string text,.slice kp q aG,.int .i64 place] 56)∧Hid (dS n (kids.drop j) cy=dS n kids us)) (fun i _=>q - (intOf i).toNat)
 case atStart=>exact⟨0,us,by omega,rfl,hus,rfl,hid rfl⟩
 case round=>
  obtain⟨j,cy,hj,rfl,RJ,rfl,hI⟩:=hrel;have agh:Hid (Below w.heap.size w (((aO W U cy).alloc (.cells fa 135)).alloc (.cells #[.int .i64 k,.string text,.slice kp q aG,.int .i64 place] 56))):=hid (bA (bA (jr HW.out hU) _) _);by_cases hjq:j<q
  ·have hjk:j<kids.length:=by have:=Hq.out;omega
   rcases Hf.out with ix|⟨bx,ox,hpx,sU,zh⟩
   ·subst ix;simp at hjk
   subst hpx;replace zh:=(HW.out.cell (p:=⟨bx,_,none⟩) sU).trans (zh j hjk);have bxU:¬bx=U:=aa;have bxw:bx<W.heap.size:=by have:=HW.out.size;omega
   have jS:=uL n kids j hjk cy;rw [hI.out] at jS;generalize kids[j]=u at*;have q0:(0:Int)≤(j:Int):=aa;have q1:(j:Int)<(q:Int):=aa;have gO:¬(0≤u∧u<n∧cy.getD u.toNat false=false)→ia ns ⟨k,text,some ⟨bx,ox,none⟩,aG,kids,place⟩ n us=none:=fun hno=>by
    rw [if_neg hno] at jS;unfold ia;simp only [jS]
   by_cases hu0:u<0
   ·have Hb:=hid (gO aa);have amV:¬(0:Int)≤u:=aa;exact Yb
   by_cases XF:(n:Int)≤u
   ·have Hb:=hid (gO aa);have hu2:0≤u:=aa;have hu3:¬u<(n:Int):=aa;exact Yb
   obtain⟨z,rfl⟩:∃z:Nat,u=(z:Int):=⟨u.toNat,by omega⟩;rw [Int.toNat_natCast] at gO jS;have hz1:z<cy.length:=aa;have hz2:cy[z]?=some (cy.getD z false):=by rw [List.getD,List.getElem?_eq_getElem hz1];rfl
   have z0:(0:Int)≤(z:Int):=aa;have z1:(z:Int)<(n:Int):=aa;have z2:(z:Int)<(L:Int):=aa;cases wG:cy.getD z false with
   |true=>
    have Hb:=hid (gO (by rw [wG];simp));rw [wG] at hz2;clear gO jS wG;exact Yc
   |false=>
    rw [wG] at hz2;rw [if_pos ⟨z0,z1,wG⟩] at jS;have Hkd:=hid jS;clear gO jS wG;go_wp2_with (go_at_call 139;((with_reducible refine(dU _).mono ?_));rintro e w' ⟨rfl,hw⟩;rw [hw];clear hw w');go_roundw
    case rel=>exact⟨j+1,cy.set z true,by omega,by go_num,by simp [RJ],rfl,hid Hkd.out.symm⟩
    case measure=>simp [intOf];omega
  ·obtain rfl:j=q:=by omega
   have gq:dS n kids us=some cy:=by rw [←hI.out,Hq.out,List.drop_length];rfl
   have bZ:=iW n kids us cy gq;have Cz:=hid gq;have HX:Hid (Below w.heap.size w (((aO W U cy).alloc (.cells fa 135)).alloc (.cells #[.int .i64 k,.string text,.slice kp j aG,.int .i64 place] 56))):=agh;clear hI gq agh;have hfk:fa[k]?=some (str (bY k)):=Hfa.out k aR GU;have yZ:n≤ns.length:=aa;obtain⟨fb,hfb⟩:∃fb,fb=ep (bY k) (bJ ns kids):=⟨_,rfl⟩;have Yd:∀W',Below w.heap.size w W'→Calls Tryz.prog 140 #[.slice (some ⟨b,o,none⟩) L c,.slice kp j aG,str (bY k)] W' fun e w'=>e=cP fb∧Below W'.heap.size W' w':=fun W' Fy=>by
    rw [hfb,HL.out];exact Mr W' (some ⟨b,o,none⟩) kp ns.length c j aG (bY k) (Mo aR GU) aa nS _ (by simp [bJ,Hq.out]) (SV (aA.later Ha.out Fy) (bC.later Hf.out Fy) n yZ Hv.out bZ)
   obtain⟨tb,QH⟩:∃tb,tb=rT k text.data.toList j:=⟨_,rfl⟩;have Ye:∀W',Below w.heap.size w W'→Calls Tryz.prog 141 #[.agg #[.int .i64 (k:Int),.string text,.slice kp j aG,.int .i64 place]] W' fun e w'=>e=.returned (.bool tb)∧Below W'.heap.size W' w':=fun W' Fy=>by
    rw [QH];exact Mn k aR GU text (by have:=Hsm.out.2;omega) kp j aG place W' (cu.later Hl.out Fy)
   obtain⟨eb,heb⟩:∃eb,eb=jD ns ⟨k,text,kp,aG,kids,place⟩:=⟨_,rfl⟩;have Bq:fb=true→tb=true→∀W',Below w.heap.size w W'→Calls Tryz.prog 142 #[.slice (some ⟨b,o,none⟩) L c,.agg #[.int .i64 (k:Int),.string text,.slice kp j aG,.int .i64 place]] W' fun e w'=>e=cP eb∧Below W'.heap.size W' w':=fun h1 h2 W' Fy=>by
    have h:=Ms W' (some ⟨b,o,none⟩) c ns Hs.out (aA.later Ha.out Fy) (cu.later Hl.out Fy) n hn Hv.out ⟨k,text,kp,aG,kids,place⟩ (bC.later Hf.out Fy) Hsm.out.1 Hsm.out.2 af4.out
     ⟨by simp only;omega,by simp only;omega,bZ,by rw [Int.toNat_natCast];simp only;rw [←hfb];exact h1,by rw [Int.toNat_natCast];simp only;rw [←Hq.out,←QH];exact h2⟩
    unfold Fz at h;simp only at h;rw [←HL.out,←Hq.out,←heb] at h;exact h
   have qU:okB ns ⟨k,text,kp,aG,kids,place⟩=(fb && tb && eb):=by
    unfold okB;simp only [decide_eq_true aju,decide_eq_true (show(1:Int)≤(k:Int)∧(k:Int)≤36 by omega),Bool.true_and,Int.toNat_natCast,←Hq.out,←hfb,←QH,←heb]
   have rZ:=hid Yd;have Mt:=hid Ye;have xG:=hid Bq;have ag:ia ns ⟨k,text,kp,aG,kids,place⟩ n us=if(fb && tb && eb)=true then some cy else none:=by
    unfold ia;simp only [Cz.out,qU]
   have Yf:=hid ag;clear Yd Ye Bq qU ag hfb QH heb bZ yZ;generalize bY k=fo at*;cases fb with
   |false=>
    replace rZ:Hid (∀W',Below w.heap.size w W'→Calls Tryz.prog 140 #[.slice (some ⟨b,o,none⟩) L c,.slice kp j aG,str fo] W' fun e w'=>e=.panicked thrown∧Below W'.heap.size W' w'):=rZ;go_wp2;refine wp_region_any ah ?_;refine Am.eJ _ 7 rfl ah ?_;simp only [List.take_succ_cons,List.take_zero];refine Am.cq (Φ:=DM (.slice (some ⟨b,o,none⟩) L c) (.slice kp j aG) W.heap.size k fo) (w0:=(((aO W U cy).alloc (.cells fa 135)).alloc (.cells #[.int .i64 k,.string text,.slice kp j aG,.int .i64 place] 56))) ah ah kI ?_ ?_ _ ((Below.refl _ _).drew)
    ·exact SX
    ·have SY:=trivial;exact abl
   |true=>
    replace rZ:Hid (∀W',Below w.heap.size w W'→Calls Tryz.prog 140 #[.slice (some ⟨b,o,none⟩) L c,.slice kp j aG,str fo] W' fun e w'=>e=.returned (.tuple #[])∧Below W'.heap.size W' w'):=rZ;cases tb with
    |false=>
     go_wp2;refine wp_region_any ah ?_;refine Am.eJ _ 7 rfl ah ?_;simp only [List.take_succ_cons,List.take_zero];refine Am.cq (Φ:=DM (.slice (some ⟨b,o,none⟩) L c) (.slice kp j aG) W.heap.size k fo) (w0:=(((aO W U cy).alloc (.cells fa 135)).alloc (.cells #[.int .i64 k,.string text,.slice kp j aG,.int .i64 place] 56))) ah ah kI ?_ ?_ _ ((Below.refl _ _).drew)
     ·exact SX
     ·have SZ:=trivial;exact abl
    |true=>
     cases eb with
     |false=>
      replace xG:Hid (∀W',Below w.heap.size w W'→Calls Tryz.prog 142 #[.slice (some ⟨b,o,none⟩) L c,.agg #[.int .i64 (k:Int),.string text,.slice kp j aG,.int .i64 place]] W' fun e w'=>e=.panicked thrown∧Below W'.heap.size W' w'):=hid (xG.out rfl rfl);go_wp2;refine wp_region_any ah ?_;refine Am.eJ _ 7 rfl ah ?_;simp only [List.take_succ_cons,List.take_zero];refine Am.cq (Φ:=DM (.slice (some ⟨b,o,none⟩) L c) (.slice kp j aG) W.heap.size k fo) (w0:=(((aO W U cy).alloc (.cells fa 135)).alloc (.cells #[.int .i64 k,.string text,.slice kp j aG,.int .i64 place] 56))) ah ah kI ?_ ?_ _ ((Below.refl _ _).drew)
      ·exact SX
      ·have S0:=trivial;exact abl
     |true=>
      replace xG:Hid (∀W',Below w.heap.size w W'→Calls Tryz.prog 142 #[.slice (some ⟨b,o,none⟩) L c,.agg #[.int .i64 (k:Int),.string text,.slice kp j aG,.int .i64 place]] W' fun e w'=>e=.returned (.tuple #[])∧Below W'.heap.size W' w'):=hid (xG.out rfl rfl);go_wp2;refine wp_region_any ah ?_;refine Am.eJ _ 7 rfl ah ?_;simp only [List.take_succ_cons,List.take_zero];refine Am.cq (Φ:=DM (.slice (some ⟨b,o,none⟩) L c) (.slice kp j aG) W.heap.size k fo) (w0:=(((aO W U cy).alloc (.cells fa 135)).alloc (.cells #[.int .i64 k,.string text,.slice kp j aG,.int .i64 place] 56))) ah ah kI ?_ ?_ _ ((Below.refl _ _).drew)
      ·exact SX
      ·have Mu:=trivial;exact Yg
end Go.Proofs.YtjchnliaglecoaaGreatDoor
/- A part of the proof. Conditions: none. -/
set_option maxRecDepth 100000
set_option maxHeartbeats 8000000
namespace Go.Proofs.YtjchnliaglecoaaGreatDoor
open Go Go.RowKit Go.Nodes
theorem BJ (W:World) (A:Nat) (fa:Array Value) (hA:W.heap[A]?=some (.cells fa 135 (0,0))) (hs:fa.size=37):(Instr.loadAt 135 (.pointer (some ⟨A,0,none⟩))).run Tryz.prog W=.ok (.agg fa) W:=by
 have h:=run_loadVar_row (P:=Tryz.prog) W A 135 135 fa (0,0) _ hA Tryz.underlying135 rfl (by rw [hs];kernel_rfl);unfold Instr.loadAt;simp [Instr.sureAddr,h]
theorem FI {ops:Array Oper} {rest:List Oper} {o:Oper} {a:Act} {w:World} {Q:Exit→Act→World→Prop} {A:Nat} {fa:Array Value} (hg:o.guard=none) (x:Operand) (ho:o.op=Op.load 135 x) (hx:a.eval x=.pointer (some ⟨A,0,none⟩))
  (H7:(Instr.loadAt 135 (.pointer (some ⟨A,0,none⟩))).run Tryz.prog w=.ok (.agg fa) w) (h:wpList Tryz.prog ops Q rest (a.put o.dst (.agg fa)) w):wpList Tryz.prog ops Q (o::rest) a w:=
 wpList_plain hg fun K hK=>by
  unfold Oper.wp execOp;simp only [ho,hx,H7,Sem.run_bind,Sem.run_pure,Result.andThen_ok];exact hK _ _ h
theorem H8 (W:World) (LB NB UB AB:Nat) (l n u:Value) (fa:Array Value) (hL:W.cell? ⟨LB,0,none⟩=some l) (hN:W.cell? ⟨NB,0,none⟩=some n) (hU:W.cell? ⟨UB,0,none⟩=some u) (hA:W.heap[AB]?=some (.cells fa 135 (0,0))) (hs:fa.size=37)
  (S:World→Prop) (h:Calls Tryz.prog 92 #[l,n,u,.agg fa] W fun e w'=>e=.panicked thrown∧S w'):
  Calls Tryz.prog 91 #[.pointer (some ⟨LB,0,none⟩),.pointer (some ⟨NB,0,none⟩),.pointer (some ⟨UB,0,none⟩),.pointer (some ⟨AB,0,none⟩)] W fun e w'=>e=.panicked thrown∧S w':=by
 have H7:=hid (BJ W AB fa hA hs);have H:=hid h;clear h hA;go_enter Tryz.func91,Tryz.ntmps91;go_wp2_with (first
  |(refine FI rfl _ rfl rfl H7.out ?_)
  |(go_at_call 92;((with_reducible refine H.out.mono ?_));rintro e w' ⟨rfl,hb⟩))
 exact⟨rfl,rfl,hb⟩
theorem D9 (W:World) (LB NB UB AB:Nat) (l n u:Value) (fa:Array Value) (hL:W.cell? ⟨LB,0,none⟩=some l) (hN:W.cell? ⟨NB,0,none⟩=some n) (hU:W.cell? ⟨UB,0,none⟩=some u) (hA:W.heap[AB]?=some (.cells fa 135 (0,0))) (hs:fa.size=37)
  (S:World→Prop) (h:Calls Tryz.prog 92 #[l,n,u,.agg fa] W fun e w'=>e=.returned (.tuple #[])∧S w'):
  Calls Tryz.prog 91 #[.pointer (some ⟨LB,0,none⟩),.pointer (some ⟨NB,0,none⟩),.pointer (some ⟨UB,0,none⟩),.pointer (some ⟨AB,0,none⟩)] W fun e w'=>e=.returned (.tuple #[])∧S w':=by
 have H7:=hid (BJ W AB fa hA hs);have H:=hid h;clear h hA;go_enter Tryz.func91,Tryz.ntmps91;go_wp2_with (first
  |(refine FI rfl _ rfl rfl H7.out ?_)
  |(go_at_call 92;((with_reducible refine H.out.mono ?_));rintro e w' ⟨rfl,hb⟩))
 go_end0;exact⟨rfl,hb⟩
theorem FJ (B:Nat):(#[Value.pointer (some ⟨B,0,none⟩)]++Array.replicate (Tryz.f138.ntmps - #[Value.pointer (some ⟨B,0,none⟩)].size) undef)=#[.pointer (some ⟨B,0,none⟩),undef,undef,undef,undef,undef,undef,undef,undef,undef,undef,undef,undef,undef,undef]:=by
 rw [Tryz.ntmps138];rfl
theorem zN (B:Nat) (x:Bool) (Yz:List PanicEntry) (w:World) (hc:w.cell? ⟨B,0,none⟩=some (.bool x)) (hz:w.frozen? ⟨B,0,none⟩=false) (hB:B<w.heap.size):
  CallsD Tryz.prog 138 #[.pointer (some ⟨B,0,none⟩)] (.panicking ({v:=.iface 170 (.agg #[]),recovered:=false}::Yz)) w fun e u' w'=>
   e=.returned (.tuple #[])∧u'=.panicking ({v:=.iface 170 (.agg #[]),recovered:=true}::Yz)∧w'=(w.setCell ⟨B,0,none⟩ (.bool false)).alloc (.cells #[] 170):=by
 refine callsD_of_wpS Tryz.func138 rfl fun c₀ cs hu=>?_
 rw [FJ];apply wpS_seq;apply wpS_region;simp [wpOpsS,go_sem,recoverD,hu,Exit.thenS];refine wpS_of_wp ?_;have hta:∀w,(Instr.typeAssert (.iface 170 (.agg #[])) 20 170 true).run Tryz.prog w=.ok (.tuple #[.agg #[],.bool true]) w:=fun _=>by kernel_rfl
 go_wp2;cases c₀
 simp_all [bodyPostS,results,Tryz.results138]
theorem Ea (B:Nat) (w:World):
  CallsD Tryz.prog 138 #[.pointer (some ⟨B,0,none⟩)] .returning w fun e u' w'=>e=.returned (.tuple #[])∧u'=.returning∧w'=w:=by
 refine callsD_of_wpS Tryz.func138 rfl fun c₀ cs hu=>?_
 rw [FJ];apply wpS_seq;apply wpS_region;simp [wpOpsS,go_sem,recoverD,hu,Exit.thenS];refine wpS_of_wp ?_;go_wp2;cases c₀
 simp_all [bodyPostS,results,Tryz.results138]
theorem Ia (a b c d:Value) (W:World) (U:Nat) (cy:List Bool) (hU:U<W.heap.size) (h:Calls Tryz.prog 91 #[a,b,c,d] (W.alloc (.cells #[.bool false] 4)) fun e w'=>e=.returned (.tuple #[])∧∃g,w'=grow (aO (W.alloc (.cells #[.bool false] 4)) U cy) g):
  Calls Tryz.prog 90 #[.func (.func 91) #[] #[a,b,c,d]] W fun e w'=>e=.returned (.bool true)∧∃g,w'=grow (aO W U cy) g:=by
 have hmf:∀(fn:Fn) (first cap:Array Value) (w:World),(Instr.makeFunc fn first cap).run Tryz.prog w=.ok (.func fn first cap) w:=fun _ _ _ _=>rfl
 have H:=hid h;have hne:¬W.heap.size=U:=aa;have hR:=hid (eR W (.cells #[.bool false] 4) U cy hU);clear h;go_enter_defers Tryz.func90,Tryz.ntmps90;go_wp2_with (go_at_call 91;((with_reducible refine H.out.mono ?_));rintro e w' ⟨rfl,g,rfl⟩;rw [hR.out]);refine leaves_cons (f:=138) (args:=#[.pointer (some ⟨W.heap.size,0,none⟩)]) ak (by simp [go_sem]) ?_;refine(Ea W.heap.size _).mono ?_;rintro e u' w'' ⟨rfl,rfl,rfl⟩;obtain⟨g9,h9⟩:=ay (show Below (aO W U cy).heap.size (aO W U cy) (grow ((aO W U cy).alloc (.cells #[.bool true] 4)) g) by repeat (first|exact Below.refl _ _|refine bG ?_ _|refine bA ?_ _));have H9:=hid h9;clear h9;simp [Leaves,settle,results,Tryz.results90,go_sem];exact⟨g9,H9.out⟩
theorem Ng (a b c d:Value) (W:World) (U:Nat) (hU:U<W.heap.size) (h:Calls Tryz.prog 91 #[a,b,c,d] (W.alloc (.cells #[.bool false] 4)) fun e w'=>e=.panicked thrown∧∃cy g,w'=grow (aO (W.alloc (.cells #[.bool false] 4)) U cy) g):
  Calls Tryz.prog 90 #[.func (.func 91) #[] #[a,b,c,d]] W fun e w'=>e=.returned (.bool false)∧∃cy g,w'=grow (aO W U cy) g:=by
 have hmf:∀(fn:Fn) (first cap:Array Value) (w:World),(Instr.makeFunc fn first cap).run Tryz.prog w=.ok (.func fn first cap) w:=fun _ _ _ _=>rfl
 have H:=hid h;have hne:¬W.heap.size=U:=aa;have hR:=hid (fun cy=>eR W (.cells #[.bool false] 4) U cy hU);clear h;go_enter_defers Tryz.func90,Tryz.ntmps90;go_wp2_with (go_at_call 91;((with_reducible refine H.out.mono ?_));rintro e w' ⟨rfl,cy,g,rfl⟩;rw [hR.out]);refine leaves_cons (f:=138) (args:=#[.pointer (some ⟨W.heap.size,0,none⟩)]) ak (by simp [go_sem]) ?_;refine(zN W.heap.size false [] _ ?_ ?_ ?_).mono ?_
 ·simp [go_sem]
 ·simp [go_sem]
 ·simp;omega
 rintro e u' w'' ⟨rfl,rfl,rfl⟩;have h9:Below (aO W U cy).heap.size (aO W U cy) ((grow ((aO W U cy).alloc (.cells #[.bool false] 4)) g).setCell ⟨W.heap.size,0,none⟩ (.bool false)|>.alloc (.cells #[] 170)):=bA (bS (bG (bA (Below.refl _ _) _) _) _ _ _ ak) _;simp [go_sem] at h9;have H9:=hid h9;clear h9;simp [Leaves,settle,results,Tryz.results90,go_sem];obtain⟨g9,hg⟩:=ay (w:=aO W U cy) (by rw [oK];exact H9.out);exact⟨cy,g9,hg⟩
end Go.Proofs.YtjchnliaglecoaaGreatDoor
/- A part of the proof. Conditions: none. -/
set_option maxRecDepth 100000
set_option maxHeartbeats 8000000
namespace Go.Proofs.YtjchnliaglecoaaGreatDoor
open Go Go.RowKit Go.Nodes
noncomputable def Nr:Array Value:=(mM.map fun l=>Value.string ⟨l.toArray⟩).toArray
def ru:Array Value:=(List.replicate 37 (Value.string ⟨#[]⟩)).toArray
theorem abL (k:Nat) (h1:1≤k) (h2:k≤36):Nr[k]?=some (str (bY k)):=by
 unfold Nr;have h:k<mM.length:=by rw [show mM.length=37 by decide];omega
 simp [bY,List.getD,List.getElem?_eq_getElem h,str]
theorem Ts (ev : Operand → Value) (w : World) : (execOp ev { dst := some 4, op := Op.alloc 105, type := 0, pos := "tree.go:208", after := #[], guard := none }).run Tryz.prog w = .ok (.value (.pointer (some ⟨w.heap.size, 0, none⟩))) (w.alloc (.cells #[.slice none 0 0] 105)) := by kernel_rfl
theorem Tt (ev : Operand → Value) (w : World) : (execOp ev { dst := some 5, op := Op.alloc 135, type := 0, pos := "tree.go:208", after := #[], guard := none }).run Tryz.prog w = .ok (.value (.pointer (some ⟨w.heap.size, 0, none⟩))) (w.alloc (.cells ru 135)) := by kernel_rfl
theorem YG {A B:Array Value} {s t:TypeId} {o:Option Obj} (h1:o=some (.cells A s (0,0))) (h2:o=some (.cells B t (0,0))) (hst:¬s=t):False:=by
 rw [h1] at h2;exact hst (Obj.cells.inj (Option.some.inj h2)).2.1
theorem Ib {B g:Nat} {w0 w:World} (hb:Below B w0 w) (hBg:B≤g) (cs:Array Value):Below B w0 (w.setRow g cs):=by
 obtain⟨h1,h2,h3,h4,h5⟩:=hb;exact⟨h1,h2,h3,by simpa using h4,fun k hk=>by rw [setRow_other _ _ _ _ aa];exact h5 k hk⟩
theorem Ed {w w':World} {U:Nat} {o:Obj} (hb:Below w.heap.size w w') (h:w.heap[U]?=some o):w'.heap[U]?=some o:=(hb.block _ (Array.getElem?_eq_some_iff.1 h).1).trans h
def Tu (S:Value) (L B:Nat):Nat→World→Value→Prop
 |0,w,v=>v=S
 |1,w,v=>v=.int .i64 L
 |2,w,v=>∃U:Nat,v=.slice (some ⟨U,0,none⟩) L L∧w.heap[U]?=some (.cells ((List.replicate L false).map Value.bool).toArray 4 (0,0))∧B≤U
 |3,w,v=>v=vn
 |4,w,v=>∃U:Nat,v=.pointer (some ⟨U,0,none⟩)∧w.heap[U]?=some (.cells #[.slice none 0 0] 105 (0,0))∧B≤U
 |_,w,v=>∃U:Nat,v=.pointer (some ⟨U,0,none⟩)∧w.heap[U]?=some (.cells ru 135 (0,0))∧B≤U
theorem Ee {S:Value} {L B:Nat}:∀(k:Nat) (w w':World) (v:Value),Below w.heap.size w w'→Tu S L B k w v→Tu S L B k w' v:=by
 intro k w w' v hb h;unfold Tu at*;split at h<;>first|exact h|exact(fun⟨U,e,hh,hB⟩=>⟨U,e,Ed hb hh,hB⟩) h
theorem Ns (w W:World) (p:Option Addr) (c:Nat) (ns:List Nd) (hs:Small ns) (hc:iN ns) (ha:aA w p ns) (hl0:cu w) (n:Nat) (hn:n<ns.length) (hv:lu ns n)
  (K1 K2 U:Nat) (us:List Bool) (g:fk) (hus:us.length=ns.length) (hW:Below w.heap.size w W) (hU:w.heap.size<U) (hU2:U<W.heap.size) (n1:¬K1=U) (n2:¬K2=U)
  (hL:W.heap[w.heap.size]?=some (.cells #[.slice p ns.length c] 22 (0,0))) (Nt:W.heap[K1]?=some (.cells #[.slice (some ⟨U,0,none⟩) ns.length ns.length] 105 (0,0))) (hK2:W.heap[K2]?=some (.cells Nr 135 (0,0))):
  Calls Tryz.prog 90 #[.func (.func 91) #[] #[.pointer (some ⟨w.heap.size,0,none⟩),.pointer (some ⟨W.heap.size+g.size,0,none⟩),.pointer (some ⟨K1,0,none⟩),.pointer (some ⟨K2,0,none⟩)]]
   ((grow (aO W U us) g).alloc (.cells #[.int .i64 (n:Int)] 3)) fun e w'=>match ia ns ns[n] n us with
    |none=>e=.returned (.bool false)∧∃cy g2,w'=grow ((grow (aO W U cy) g).alloc (.cells #[.int .i64 (n:Int)] 3)) g2
    |some cy=>e=.returned (.bool true)∧∃g',w'=grow (aO W U cy) g':=by
 have lt1:=(Array.getElem?_eq_some_iff.1 Nt).1;have lt2:=(Array.getElem?_eq_some_iff.1 hK2).1;have lt0:=(Array.getElem?_eq_some_iff.1 hL).1;have Aw:¬w.heap.size=U:=aa;obtain⟨X,hX⟩:∃X,X=(grow W g).alloc (.cells #[.int .i64 (n:Int)] 3):=⟨_,rfl⟩;have hXe:((grow (aO W U us) g).alloc (.cells #[.int .i64 (n:Int)] 3))=aO X U us:=by rw [hX,eR _ _ _ _ cr,oL _ _ _ _ hU2]
 have hXb:Below w.heap.size w X:=by rw [hX];exact bA (bG hW _) _
 have hXs:U<X.heap.size:=by rw [hX];simp;omega
 have old:∀k o,¬k=U→W.heap[k]?=some o→((aO X U us).alloc (.cells #[.bool false] 4)).heap[k]?=some o:=fun k o hk h=>by
  have hlt:=(Array.getElem?_eq_some_iff.1 h).1;rw [heap_alloc_old _ _ (by rw [oK,hX];simp;omega),kH _ _ _ _ hk,hX,heap_alloc_old _ _ cr,gJ _ _ _ hlt];exact h
 have cell0:∀(Y:World) (k:Nat) (v:Value) (t:TypeId),Y.heap[k]?=some (.cells #[v] t (0,0))→Y.cell? ⟨k,0,none⟩=some v:=fun Y k v t h=>by simp [World.cell?,h]
 have hcN:((aO X U us).alloc (.cells #[.bool false] 4)).cell? ⟨W.heap.size+g.size,0,none⟩=some (.int .i64 (n:Int)):=by
  refine cell0 _ _ _ 3 ?_;rw [heap_alloc_old _ _ (by rw [oK,hX];simp),kH _ _ _ _ aa,hX];have:=heap_alloc_new (grow W g) (.cells #[.int .i64 (n:Int)] 3);simpa using this
 rw [hXe];have hlk:=Mp w (X.alloc (.cells #[.bool false] 4)) p c ns hs hc ha hl0 n hn hv Nr abL U ns.length us hus (bA hXb _) aa cr;rw [eR _ _ _ _ hXs] at hlk;have hrow:∀cy,aO ((aO X U us).alloc (.cells #[.bool false] 4)) U cy=aO (X.alloc (.cells #[.bool false] 4)) U cy:=fun cy=>by
  rw [←eR _ _ _ _ hXs,mE]
 have agN:Nr.size=37:=by unfold Nr;rw [List.size_toArray,List.length_map];decide
 cases Tv:ia ns ns[n] n us with
 |none=>
  rw [Tv] at hlk;refine(Ng _ _ _ _ (aO X U us) U (by simpa using hXs) ?_).mono fun e w' ⟨he,cy,g2,hw⟩=>⟨he,cy,g2,by rw [hw,mE,hX,eR _ _ _ _ cr,oL _ _ _ _ hU2]⟩
  exact H8 _ _ _ _ _ _ _ _ _ (cell0 _ _ _ 22 (old _ _ Aw hL)) hcN (cell0 _ _ _ 105 (old _ _ n1 Nt)) (old _ _ n2 hK2) agN _ (hlk.mono fun e w' ⟨he,cy,g2,hw⟩=>⟨he,cy,g2,by rw [hrow,hw]⟩)
 |some cy=>
  rw [Tv] at hlk;refine(Ia _ _ _ _ (aO X U us) U cy (by simpa using hXs) ?_).mono fun e w' ⟨he,g2,hw⟩=>⟨he, ?_⟩
  ·exact D9 _ _ _ _ _ _ _ _ _ (cell0 _ _ _ 22 (old _ _ Aw hL)) hcN (cell0 _ _ _ 105 (old _ _ n1 Nt)) (old _ _ n2 hK2) agN _ (hlk.mono fun e w' ⟨he,g2,hw⟩=>⟨he,g2,by rw [hrow,hw]⟩)
  ·rw [mE] at hw;have h9:Below (aO W U cy).heap.size (aO W U cy) w':=by
    rw [hw,hX,eR _ _ _ _ cr,oL _ _ _ _ hU2];exact bG (bA (bG (Below.refl _ _) _) _) _
   exact ay h9
theorem vo {ns l:List Nd} {x:Nd} {n:Nat} {us:List Bool} (h:ia ns x n us=none):∃v,eF ns (x::l) n us=(some n,v):=by
 unfold ia at h;cases hk:dS n x.kids us with
 |none=>exact⟨us,by unfold eF;simp only [hk]⟩
 |some cy=>
  rw [hk] at h;simp only at h;cases ho:okB ns x with
  |true=>rw [ho] at h;cases h
  |false=>exact⟨cy,ud hk ho⟩
theorem wL {ns:List Nd} {x:Nd} {n:Nat} {us cy:List Bool} (h:ia ns x n us=some cy):dS n x.kids us=some cy∧okB ns x=true:=by
 unfold ia at h;cases hk:dS n x.kids us with
 |none=>rw [hk] at h;cases h
 |some us3=>
  rw [hk] at h;simp only at h;cases ho:okB ns x with
  |true=>rw [ho] at h;cases h;exact⟨rfl,rfl⟩
  |false=>rw [ho] at h;cases h
theorem rL {ns:List Nd} {x:Nd} {n:Nat} {us cy:List Bool} (hk:dS n x.kids us=some cy) (ho:okB ns x=true):Nu ns n x:=by
 unfold okB at ho;simp only [Bool.and_eq_true,decide_eq_true_eq] at ho;exact⟨ho.1.1.2.1.1,ho.1.1.2.1.2,ho.1.1.1,iW n x.kids us cy hk,ho.1.1.2.2,ho.1.2,ho.2⟩
theorem Ic (w:World) (p:Option Addr) (c:Nat) (ns:List Nd) (hs:Small ns) (hc:iN ns) (ha:aA w p ns) (hl0:cu w):
  Calls Tryz.prog 42 #[.slice p ns.length c] w (Fu (bF ns).1 (bF ns).2 w):=by
 have Ha:=hid ha;have Hs:=hid hs;have Hc:=hid hc;have Hl:=hid hl0;clear ha hs hc hl0;obtain⟨L,hL⟩:∃L,L=ns.length:=⟨_,rfl⟩;rw [←hL];have hL5:(L:Int)≤5000:=by have:=Hs.out.1;omega
 have HL:=hid hL;clear hL;go_enter Tryz.func42,Tryz.ntmps42;go_wp2;refine wp_region_any ah ?_;refine Am.eJ _ 7 rfl ah ?_;simp only [List.take_succ_cons,List.take_zero];refine Am.eJ _ 6 rfl ah ?_;simp only [List.take_succ_cons,List.take_zero];refine Am.cq (Φ:=Tu (.slice p L c) L (w.heap.size+1)) (w0:=(w.alloc (.cells #[.slice p L c] 22))) ah ah Ee ?_ ?_ _ ((Below.refl _ _).drew)
 ·intro kq o ca w1 ho hb ag K hK;have hc0:w1.cell? ⟨w.heap.size,0,none⟩=some (.slice p L c):=(hb.cell (p:=⟨_,0,none⟩) ak).trans (by simp [go_sem]);have QM:w.heap.size+1≤w1.heap.size:=by have:=hb.size;simpa using this
  have hfn:∀f,ca.eval (.func f)=.func (.func f) #[] #[]:=fun _=>rfl
  have hcs:∀v,ca.eval (.const v)=v:=fun _=>rfl
  rcases kq with _|_|_|_|_|_|kq
  ·cases ho;have aW:=Am.lo 1 ag rfl;exact YH
  ·cases ho;have aW:=Am.lk 13 0 ag fun _=>rfl
   exact Nv
  ·cases ho;have aW:=Am.lk 14 1 ag fun _=>rfl
   obtain⟨iB,hiB,zB0,zB1,zB2⟩:=info_parts Tryz.X1;have Ef:=run_make (P:=Tryz.prog) w1 105 4 iB (.bool false) Tryz.underlying105 hiB zB0 .i64 .i64 (L:Int) (L:Int) aa (Int.le_refl _) (by rw [zB2];omega) aa;have hmc:madeCells (Value.bool false).cells ((L:Int).toNat*iB.size)=((List.replicate L false).map Value.bool).toArray:=by
    rw [zB1,Int.toNat_natCast,Nat.mul_one];apply Array.toList_inj.1;rw [show(Value.bool false).cells=#[Value.bool false] from rfl,toList_madeCells_one,List.map_replicate]
   rw [hmc,Int.toNat_natCast] at Ef;refine Am.bh rfl rfl (Am.ic (v:=.slice (some ⟨w1.heap.size,0,none⟩) L L) (w':=w1.alloc (.cells ((List.replicate L false).map Value.bool).toArray 4)) ?_ (hK _ _ ((Below.refl _ _).alloc (Nat.le_refl _) _) ⟨w1.heap.size,rfl,heap_alloc_new _ _,QM⟩));generalize ca.eval=ev at*;simp [execOp,aW,Ef]
  ·cases ho;refine Am.bh rfl rfl (Am.cH (w':=w1) (f:=89) (args:=#[]) ?_ ((Ie w1).mono ?_))
   ·generalize ca.eval=ev at*;simp [go_sem,execOp,hfn,hcs]
   ·exact oW
  ·cases ho;refine Am.bh rfl rfl (Am.ic (v:=.pointer (some ⟨w1.heap.size,0,none⟩)) (w':=w1.alloc (.cells #[.slice none 0 0] 105)) ?_ (hK _ _ ((Below.refl _ _).alloc (Nat.le_refl _) _) ⟨w1.heap.size,rfl,heap_alloc_new _ _,QM⟩));exact Ts _ w1
  ·cases ho;refine Am.bh rfl rfl (Am.ic (v:=.pointer (some ⟨w1.heap.size,0,none⟩)) (w':=w1.alloc (.cells ru 135)) ?_ (hK _ _ ((Below.refl _ _).alloc (Nat.le_refl _) _) ⟨w1.heap.size,rfl,heap_alloc_new _ _,QM⟩));exact Tt _ w1
  ·simp at ho
 ·intro ca w1 hb hd hs bV cQ;obtain⟨U,Ig,hU,hU0⟩:∃U:Nat,ca.tmps.getD 15 undef=.slice (some ⟨U,0,none⟩) L L∧w1.heap[U]?=some (.cells ((List.replicate L false).map Value.bool).toArray 4 (0,0))∧w.heap.size+1≤U:=bV 2 _ 15 rfl rfl;have h16:ca.tmps.getD 16 undef=vn:=bV 3 _ 16 rfl rfl;obtain⟨K1,h4,Nt,anj⟩:∃U:Nat,ca.tmps.getD 4 undef=.pointer (some ⟨U,0,none⟩)∧w1.heap[U]?=some (.cells #[.slice none 0 0] 105 (0,0))∧w.heap.size+1≤U:=bV 4 _ 4 rfl rfl;obtain⟨K2,h5,hK2,ank⟩:∃U:Nat,ca.tmps.getD 5 undef=.pointer (some ⟨U,0,none⟩)∧w1.heap[U]?=some (.cells ru 135 (0,0))∧w.heap.size+1≤U:=bV 5 _ 5 rfl rfl;have dV:=Am.dy hd hs cQ;simp only [List.foldl_cons,List.foldl_nil,Ig,h16,h4,h5] at dV;generalize ca.tmps.getD 13 undef=x13 at dV;generalize ca.tmps.getD 14 undef=x14 at dV;subst dV;simp only [List.setIfInBounds_toArray,List.set_cons_succ,List.set_cons_zero];have n12:¬K1=K2:=fun e=>by rw [e,hK2] at Nt;cases Nt
  have QA:¬K1=U:=fun e=>YG (e ▸ Nt) hU ai
  have n23:¬K2=U:=fun e=>YG (e ▸ hK2) hU ai
  have hfs:Hid (vn=.agg Nr):=hid rfl;have hW:w1.heap[w.heap.size]?=some (.cells #[.slice p L c] 22 (0,0)):=(hb.block _ ak).trans (by simpa using heap_alloc_new w (.cells #[.slice p L c] 22));have pz:Below w.heap.size w w1:=(bA (Below.refl _ _) (.cells #[.slice p L c] 22)).trans (hb.mono ak);clear hb hd hs bV cQ Ig h16 h4 h5;simp only [Am.jJ];have hc1:w1.cell? ⟨K1,0,none⟩=some (.slice none 0 0):=by simp [World.cell?,Nt]
  have hz1:w1.frozen? ⟨K1,0,none⟩=false:=by simp [World.frozen?,Nt]
  have k2b:Hid ((w1.setCell ⟨K1,0,none⟩ (.slice (some ⟨U,0,none⟩) L L)).heap[K2]?=some (.cells ru 135 (0,0))):=hid (by rw [Below.heap_setCell _ _ _ _ (fun e=>n12 e.symm)];exact hK2);have cm:=hid Nt;have eD:=hid hK2;have HU:=hid hU;have HW:=hid hW;have agO:=hid pz;have agP:Hid ((Tryz.prog.info? 135).map (·.size)=some Nr.size):=hid ah;clear Nt hK2 hU hW pz;go_wp2;simp only [Am.jJ];refine wpList_store_row rfl 135 _ _ rfl K2 Nr rfl rfl 135 ru k2b.out agP.out ai ew ?_;obtain⟨Wx,hWx⟩:∃Wx,Wx=(w1.setCell ⟨K1,0,none⟩ (.slice (some ⟨U,0,none⟩) L L)).setRow K2 Nr:=⟨_,rfl⟩;rw [←hWx];have hx1:Wx.heap[K1]?=some (.cells #[.slice (some ⟨U,0,none⟩) L L] 105 (0,0)):=by
   rw [hWx,setRow_other _ _ _ _ n12];simp [World.setCell,Array.getElem?_modify,cm.out]
  have hx2:Wx.heap[K2]?=some (.cells Nr 135 (0,0)):=by rw [hWx];exact setRow_heap _ _ _ _ _ _ k2b.out
  have hxU:Wx.heap[U]?=some (.cells ((List.replicate L false).map Value.bool).toArray 4 (0,0)):=by
   rw [hWx,setRow_other _ _ _ _ (fun e=>n23 e.symm),Below.heap_setCell _ _ _ _ (fun e=>QA e.symm)];exact HU.out
  have Yo:Wx.heap[w.heap.size]?=some (.cells #[.slice p L c] 22 (0,0)):=by
   rw [hWx,setRow_other _ _ _ _ aa,Below.heap_setCell _ _ _ _ cr];exact HW.out
  have rq:Below w.heap.size w Wx:=by rw [hWx];exact Ib (bS agO.out _ _ _ aa) aa _
  clear hWx cm eD HU HW agO k2b agP hc1 hz1;have cL:Wx.cell? ⟨w.heap.size,0,none⟩=some (.slice p L c):=by simp [World.cell?,Yo]
  have cK:Wx.cell? ⟨K1,0,none⟩=some (.slice (some ⟨U,0,none⟩) L L):=by simp [World.cell?,hx1]
  have ltL:=(Array.getElem?_eq_some_iff.1 Yo).1;have ltU:=(Array.getElem?_eq_some_iff.1 hxU).1;have ltK:=(Array.getElem?_eq_some_iff.1 hx1).1;have nLU:¬w.heap.size=U:=aa;have Hx1:=hid hx1;have Hx2:=hid hx2;have HxU:=hid hxU;have HxL:=hid Yo;have QN:=hid rq;clear hx1 hx2 hxU Yo rq;go_wp2;go_loopw [19] (fun i wr=>∃(n:Nat) (us:List Bool) (g:fk),n≤L∧i=.int .i64 n∧wr=grow (aO Wx U us) g∧us.length=L∧Hid (lu ns n∧eF ns (ns.drop n) n us=eF ns ns 0 (List.replicate L false))) (fun i _=>L - (intOf i).toNat)
  case atStart=>exact⟨0,List.replicate L false,_,by omega,rfl,by rw [DL _ _ _ HxU.out];exact(er _).symm,by simp,hid ⟨fun i x h=>absurd h aa,rfl⟩⟩
  case round=>
   obtain⟨n,us,g,hn,rfl,rfl,hul,hR⟩:=hrel;by_cases hlt:n<L
   ·have wo:n<ns.length:=by have:=HL.out;omega
    have hstep:=Ns w Wx p c ns Hs.out Hc.out Ha.out Hl.out n wo hR.out.1 K1 K2 U us g nS QN.out aa ltU QA n23 (by rw [←HL.out];exact HxL.out) (by rw [←HL.out];exact Hx1.out) Hx2.out;have hdr:ns.drop n=ns[n]::ns.drop (n+1):=List.drop_eq_getElem_cons wo;have n0:(0:Int)≤(n:Int):=aa;have n1:(n:Int)<(L:Int):=aa;have hmf:∀(fn:Fn) (first cap:Array Value) (w:World),(Instr.makeFunc fn first cap).run Tryz.prog w=.ok (.func fn first cap) w:=fun _ _ _ _=>rfl
    cases Tv:ia ns ns[n] n us with
    |none=>
     rw [Tv] at hstep;obtain⟨v,hv⟩:=vo (l:=ns.drop (n+1)) Tv;have Hb:=hid (qR (v:=v) (by rw [hR.out.2,HL.out]) (by rw [hdr];exact hv));have Nw:=hid hstep;clear hstep Tv hv hdr;go_wp2_with (go_at_call 90;((with_reducible refine Nw.out.mono ?_));rintro e w' ⟨rfl,us3,g2,rfl⟩);exact YI
    |some cy=>
     rw [Tv] at hstep;obtain⟨hk,ho⟩:=wL Tv;have hvn:=rL hk ho;have hlen:=qQ n _ _ _ hk;have hsc:=yE (l:=ns.drop (n+1)) hk ho;rw [←hdr,hR.out.2] at hsc;have Hn:Hid (lu ns (n+1)∧eF ns (ns.drop (n+1)) (n+1) cy=eF ns ns 0 (List.replicate L false)):=hid ⟨fun i x hi hx=>by
      by_cases QC:i<n
      ·exact hR.out.1 i x QC hx
      ·obtain rfl:i=n:=by omega
       rw [List.getElem?_eq_getElem wo] at hx;cases hx;exact hvn,hsc.symm⟩
     have Nw:=hid hstep;clear hstep Tv hdr hk ho hvn hsc;go_wp2_with (go_at_call 90;((with_reducible refine Nw.out.mono ?_));rintro e w' ⟨rfl,g2,rfl⟩);go_roundw
     case rel=>exact⟨n+1,cy,g2,by omega,by go_num,rfl,by omega,Hn⟩
     case measure=>simp [intOf];omega
   ·obtain rfl:n=L:=by omega
    have fI:bF ns=if n=0 then((0:Int),(60:Int)) else if lR ns us then(if 200<iX ns then(0,61) else(0,0)) else((n:Int) - 1,60):=by
     exact LU
    by_cases Aw:n=0
    ·rw [if_pos Aw] at fI;have Hb:=hid fI;have xC:(n:Int) - 1<0:=aa;clear fI;go_wp2;exact YI
    rw [if_neg Aw] at fI;have Hck:=hid fI;have xC:¬((n:Int) - 1<0):=aa;clear fI;go_wp2;go_loopw [34] (fun i wr=>∃(k:Nat) (g2:fk),k≤n∧i=.int .i64 k∧wr=grow (aO Wx U us) g2∧Hid (∀m<k,(decide ((aB ns m=1)↔(m+1=ns.length)) && decide (us.getD m false=decide (m+1≠ns.length)))=true)) (fun i _=>n - (intOf i).toNat)
    case atStart=>exact⟨0,g,by omega,rfl,rfl,hid fun m h=>absurd h aa⟩
    case round=>
     obtain⟨k,g2,hk,rfl,rfl,hK⟩:=hrel;by_cases hkn:k<n
     ·have DF:k<ns.length:=by have:=HL.out;omega
      obtain⟨b,o,rfl,hb,hx,hf,c0,c1,c2,c3⟩:=fq Ha.out DF;have hka:=aY hx;rw [←hka] at c0;replace c0:=(QN.out.cell (p:=⟨b,_,none⟩) hb).trans c0;replace c1:=(QN.out.cell (p:=⟨b,_,none⟩) hb).trans c1;replace c2:=(QN.out.cell (p:=⟨b,_,none⟩) hb).trans c2;replace c3:=(QN.out.cell (p:=⟨b,_,none⟩) hb).trans c3;have bU:¬b=U:=aa;have bw:b<Wx.heap.size:=by have:=QN.out.size;omega
      have aga:k<us.length:=aa;have XF:us[k]?=some (us.getD k false):=LV;have hu2:us[k]=us.getD k false:=LV;have k0:(0:Int)≤(k:Int):=aa;have k1:(k:Int)<(n:Int):=aa;obtain⟨kd,jS⟩:∃kd,kd=aB ns (k:Int):=⟨_,rfl⟩;obtain⟨ub,wG⟩:∃ub,ub=us.getD k false:=⟨_,rfl⟩;rw [←jS] at c0;rw [←wG] at XF hu2;have Hkd:=hid jS;have Hub:=hid wG;clear hka jS wG hx hf;generalize ns[k]=x at*;have hno:¬((decide ((kd=1)↔(k+1=ns.length)) && decide (ub=decide (k+1≠ns.length)))=true)→bF ns=((n:Int) - 1,60):=fun h=>by
       exact LW
      have uN:(decide ((kd=1)↔(k+1=ns.length)) && decide (ub=decide (k+1≠ns.length)))=true→∀m<k+1,(decide ((aB ns m=1)↔(m+1=ns.length)) && decide (us.getD m false=decide (m+1≠ns.length)))=true:=fun h m hm=>by
       exact LY
      by_cases hd:kd=1
      ·subst hd;by_cases hlk:(k:Int)=(n:Int) - 1
       ·have bK:k+1=ns.length:=by have:=HL.out;omega
        have iq:((k:Int)==(n:Int) - 1)=true:=cr;have BH:¬(k:Int)<(n:Int) - 1:=aa;clear hlk;cases ub with
        |true=>
         exact Nx
        |false=>
         have Hy:=hid (uN (by simp [bK]));obtain⟨g9,h9⟩:=ay (bA (bG (Below.refl _ (aO Wx U us)) g2) (.cells #[.int .i64 1,.string x.text,.slice x.kp x.kids.length x.aG,.int .i64 x.place] 56));exact Ny
       ·have bK:¬k+1=ns.length:=by have:=HL.out;omega
        have iq:=cA hlk;have BH:(k:Int)<(n:Int) - 1:=aa;clear hlk;cases ub with
        |true=>
         exact Nx
        |false=>
         exact Nx
      ·have iM:=cA hd;by_cases hlk:(k:Int)=(n:Int) - 1
       ·have bK:k+1=ns.length:=by have:=HL.out;omega
        have iq:((k:Int)==(n:Int) - 1)=true:=cr;have BH:¬(k:Int)<(n:Int) - 1:=aa;clear hlk;cases ub with
        |true=>
         exact Nz
        |false=>
         exact Nz
       ·have bK:¬k+1=ns.length:=by have:=HL.out;omega
        have iq:=cA hlk;have BH:(k:Int)<(n:Int) - 1:=aa;clear hlk;cases ub with
        |true=>
         have Hy:=hid (uN (by simp [bK,hd]));obtain⟨g9,h9⟩:=ay (bA (bG (Below.refl _ (aO Wx U us)) g2) (.cells #[.int .i64 kd,.string x.text,.slice x.kp x.kids.length x.aG,.int .i64 x.place] 56));exact Ny
        |false=>
         exact Nz
     ·obtain rfl:k=n:=by omega
      have Bf:lR ns us=true:=by
       exact L3
      have fI:=Hck.out;rw [if_pos Bf] at fI;have L4:Hid (∀W,Below w.heap.size w W→Calls Tryz.prog 93 #[.slice p k c] W fun e w'=>e=.returned (.int .i64 (iX ns))∧Below W.heap.size W w'):=hid fun W hW=>by
       have h:=M7 p c ns W (aA.later Ha.out hW) Hs.out;rw [←HL.out] at h;exact h
      generalize iX ns=dp at*;by_cases Bg:200<dp
      ·rw [if_pos Bg] at fI;exact YJ
      ·rw [if_neg Bg] at fI;exact YJ
end Go.Proofs.YtjchnliaglecoaaGreatDoor