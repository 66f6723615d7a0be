/- A part of the proof. Conditions: none. -/
import Derived.Test.YtbgjanmheagilaaGreatDoorZz
import Derived.Test.YtbgjanmheagilaaGreatDoorAmMX
import Derived.Scope
import Derived.RangeFuncNested
import Derived.TacticsIn
import Derived.Recover
set_option linter.unusedVariables false
set_option linter.unusedSimpArgs false
set_option maxRecDepth 100000
set_option maxHeartbeats 8000000
namespace Go.Am
open Go Go.RowKit
variable {F:Fence} {n:Nat} {μ:Type} {I:gT μ} {P:Program} {lo:dP} {w0:Bs} {X:Hk} {self:Self I} {ops:Array Oper}
theorem E9 {o:Oper} {a:Act} {w:World} {K:Act→World→Prop} {Q Q1:Exit→Act→World→Prop} (hp:∀c a w,Q1 (.panic c) a w→Q (.panic c) a w) (hl:LetsOut Q1→LetsOut Q) (h:o.wpIn F n P a w K Q1):o.wpIn F n P a w K Q:=by
 unfold Oper.wpIn at*;refine⟨h.1, ?_⟩;have h:=h.2;generalize (o.semAt F.round a.eval).run P w=r at*;cases r with
 |ok nx w'=>
  cases nx<;>simp only [Oper.uponIn] at h ⊢<;>
   first
    |exact h
    |exact⟨h.1,CallsIn.mono h.2 (fun e w'' he=>by cases e<;>first|exact he|exact hp _ _ _ he|exact hl he)⟩
    |exact⟨h.1,RoundIn.mono h.2 (fun e w'' he=>by cases e<;>first|exact he|exact hp _ _ _ he|exact hl he)⟩
 |halt x w'=>cases x<;>simp only [Oper.uponIn] at h ⊢<;>first|exact h|exact hp _ _ _ h
theorem CL {Q:Exit→Act→World→Prop} {listed:Array Bool} {a:Act} {w:World} (h:Region.ready .any ops listed=[]) (hQ:Q .normal a w):∀fuel,wpAnyIn F n P .any ops Q fuel listed a w
 |0=>⟨h,hQ⟩
 |fuel+1=>⟨fun _=>hQ,fun i hi=>by rw [h] at hi;cases hi⟩
def adP (F:Fence) (n:Nat) (P:Program) (ops:Array Oper) (p:Oper) (Q:Exit→Act→World→Prop):Exit→Act→World→Prop
 | .normal,a,w=>wpListIn F n P ops Q [p] a w
 |e,a,w=>Q e a w
theorem OI {pre:Array Oper} {p:Oper} {Q:Exit→Act→World→Prop} (B4:∀i o,pre[i]?=some o→(∀e∈o.after,Region.binds .any e=true→e.on<i)∧∀j b,o.guard=some (j,b)→j<pre.size)
  (hp:∀e∈p.after,Region.binds .any e=true→e.on<pre.size) (kW:∀i,i<pre.size→cN (pre.push p).toList pre.size i):
  ∀(fuel:Nat) (l:Array Bool) (a:Act) (w:World),l.size=pre.size→fB pre.toList (fun i=>l.getD i false)→wpAnyIn F n P .any pre (adP F n P (pre.push p) p Q) fuel l a w→wpAnyIn F n P .any (pre.push p) Q (fuel+1) (l.push false) a w:=by
 intro fuel;have xQ:∀(l:Array Bool) (d:Bool) i,i<l.size→(l.push false).getD i d=l.getD i d:=fun l d i hi=>by
  simp [Array.getD_eq_getD_getElem?,Array.getElem?_push,Nat.ne_of_lt hi]
 have acJ:∀(l:Array Bool),(l.push false).getD l.size true=false:=fun l=>by
  simp [Array.getD_eq_getD_getElem?]
 have xR:∀i,i<pre.size→(pre.push p)[i]?=pre[i]?:=fun i hi=>by simp [Array.getElem?_push,Nat.ne_of_lt hi]
 have EH:(pre.push p)[pre.size]?=some p:=ai;have rdy:∀(l:Array Bool),l.size=pre.size→∀i,i<pre.size→(i∈Region.ready .any (pre.push p) (l.push false)↔i∈Region.ready .any pre l):=fun l hl i hi=>by
  exact Ve
 have QF:∀(l:Array Bool),l.size=pre.size→∀i,i∈Region.ready .any (pre.push p) (l.push false)→i<pre.size∨i=pre.size:=fun l hl i hi=>by
  exact Mg
 have full:∀(l:Array Bool),l.size=pre.size→fB pre.toList (fun i=>l.getD i false)→pre.size∈Region.ready .any (pre.push p) (l.push false)→∀i,i<pre.size→l.getD i false=true:=fun l hl hc hn i hi=>by
  exact Vf
 have none:∀(l:Array Bool),(∀i,i<pre.size→l.getD i false=true)→l.size=pre.size→Region.ready .any pre l=[]:=fun l hl hsz=>by
  exact Vg
 have fin:∀(fuel:Nat) (l:Array Bool) (a:Act) (w:World),l.size=pre.size→(∀i,i<pre.size→l.getD i false=true)→wpListIn F n P (pre.push p) Q [p] a w→wpOpIn F n P (pre.push p) Q pre.size (wpAnyIn F n P .any (pre.push p) Q fuel ((l.push false).setIfInBounds pre.size true)) a w:=fun fuel l a w hl hall h=>by
  have hr:Region.ready .any (pre.push p) ((l.push false).setIfInBounds pre.size true)=[]:=by
   exact Vh
  unfold wpListIn at h;unfold wpOpIn;simp only [EH];split
  ·rename_i hw;rw [if_pos hw] at h;exact Oper.wpIn_mono (fun a w h=>CL hr h fuel) h
  ·rename_i hw;rw [if_neg hw] at h;exact⟨h.1,CL hr h.2 fuel⟩
 have kJ:∀(l:Array Bool),l.size=pre.size→Region.ready .any (pre.push p) (l.push false)=[]→False:=fun l hl h=>by
  exact Vi
 induction fuel with
 |zero=>
  exact Vj
 |succ fuel ih=>
  intro l a w hl hc h;refine⟨fun hn=>(kJ l hl hn).elim,fun i hi=>?_⟩;rcases QF l hl i hi with hlt|rfl
  ·have Iq:=(rdy l hl i hlt).1 hi;have h2:=h.2 i Iq;obtain⟨q1,o,ho,Mh⟩:=mem_ready.1 Iq;have lB:i<l.size:=aa;have Mi:(l.push false).setIfInBounds i true=(l.setIfInBounds i true).push false:=by
    exact Vk
   have AQ:fB pre.toList (fun j=>(l.setIfInBounds i true).getD j false):=fun j o' e hj Du he hb=>by
    exact Vl
   rw [Mi];unfold wpOpIn at h2 ⊢;rw [xR i hlt];simp only [ho] at h2 ⊢;have Mj:Region.wanted o (yielded (pre.push p) a.tmps)=Region.wanted o (yielded pre a.tmps):=by
    exact Vm
   rw [Mj];split
   ·rename_i hw;rw [if_pos hw] at h2;exact E9 (fun c a w h=>h) (fun h=>h) (Oper.wpIn_mono (fun a w h=>ih _ a w ud AQ h) h2)
   ·rename_i hw;rw [if_neg hw] at h2;exact⟨h2.1,ih _ _ w ud AQ h2.2⟩
  ·have hall:=full l hl hc hi;exact fin (fuel+1) l a w hl hall (h.1 (none l hall hl))
theorem uX {p:Oper} (h:xS ops=some p):ops=ops.pop.push p∧(∀i o,ops.pop[i]?=some o→(∀e∈o.after,Region.binds .any e=true→e.on<i)∧∀j b,o.guard=some (j,b)→j<ops.pop.size)∧
  (∀e∈p.after,Region.binds .any e=true→e.on<ops.pop.size)∧∀i,i<ops.pop.size→cN ops.toList ops.pop.size i:=by
 unfold xS at h;cases hb:ops.back? with
 |none=>rw [hb] at h;cases h
 |some p'=>
  rw [hb] at h;simp only at h
  ·cases hk:((ops.toList.zipIdx.all fun(o,i)=>Ah ops.pop.size i o) && ((List.range ops.pop.size).all fun i=>((jR ops.toList []).getD ops.pop.size 0).testBit i)) with
   |false=>rw [hk] at h;cases h
   |true=>
    rw [hk] at h;cases h;simp only [Bool.and_eq_true] at hk;have hne:ops≠#[]:=by rintro rfl;simp at hb
    have hsz:0<ops.size:=Array.size_pos_iff.2 hne;have heq:ops=ops.pop.push p:=by
     have hpb:p=ops.back hsz:=by
      rw [Array.back?_eq_getElem?] at hb;have h1:ops.size - 1<ops.size:=aa;rw [Array.getElem?_eq_getElem h1] at hb;cases hb;rfl
     rw [hpb];apply Array.ext_getElem?;intro k;rw [Array.getElem?_push,Array.getElem?_pop];simp only [Array.size_pop];by_cases hk2:k=ops.size - 1
     ·subst hk2;rw [if_pos rfl,Array.getElem?_eq_getElem aa];rfl
     ·rw [if_neg hk2];by_cases hk3:k<ops.size - 1
      ·rw [if_pos hk3]
      ·rw [if_neg hk3,Array.getElem?_eq_none aa]
    have dz:∀i o,ops[i]?=some o→Ah ops.pop.size i o=true:=fun i o ho=>by
     have hm:(o,i)∈ops.toList.zipIdx:=by rw [List.mem_zipIdx_iff_getElem?];simpa using ho
     exact List.all_eq_true.1 hk.1 _ hm
    have Xc:∀i o,ops[i]?=some o→(∀e∈o.after,Region.binds .any e=true→e.on<i)∧∀j b,o.guard=some (j,b)→j<ops.pop.size:=fun i o ho=>by
     have h1:=dz i o ho;unfold Ah at h1;simp only [Bool.and_eq_true,Array.all_eq_true_iff_forall_mem] at h1;refine⟨fun e he hbd=>?_,fun j b hg=>?_⟩
     ·have:=h1.1 e he;rw [hbd,blt_eq] at this;simpa using this
     ·have:=h1.2;rw [hg] at this;simp only [blt_eq,decide_eq_true_eq] at this;exact this
    refine⟨heq,fun i o ho=>Xc i o ?_,(Xc ops.pop.size p ?_).1,fun i hi=>?_⟩
    ·rw [heq,Array.getElem?_push];have:=(Array.getElem?_eq_some_iff.1 ho).1;rw [if_neg aa];exact ho
    ·have h5:(ops.pop.push p)[ops.pop.size]?=some p:=Array.getElem?_push_size;rw [←heq] at h5;exact h5
    ·exact gp ops.toList ops.toList [] (fun k o hk=>by simpa using hk) (fun j i h=>by simp at h) _ i (List.all_eq_true.1 hk.2 i (List.mem_range.2 hi))
theorem OJ {H:Plain P X w0.w} (kn:fD P lo w0 self.code) (hc:fC P lo w0 self.call) {ρ:Option Nat} (a:aD):lu P lo w0 ρ (K7 P X lo ρ self ops a) a (fun ρ' Q ca w=>wpAnyIn (qW ρ') 0 P .any ops Q ops.size (Array.replicate ops.size false) ca w):=by
 intro s e a' s' hr E g w ca Q ρ' hρ hR hA hF ha hQ;unfold K7 at hr;cases hl:xS ops with
 |none=>rw [hl] at hr;exact GL (H:=H) kn hc a s e a' s' hr E g w ca Q ρ' hρ hR hA hF ha hQ
 |some p=>
  rw [hl] at hr;obtain⟨heq,h1,h2,h3⟩:=uX hl;obtain⟨r,s1,q1,q2⟩:=ax hr;have iR:St.Le I s1 s':=M.le _ _ _ _ q2;obtain⟨e1,a1⟩:=r;have hsz:ops.size=ops.pop.size+1:=by
   have:=congrArg Array.size heq;simpa using this
  have main:wpAnyIn (qW ρ') 0 P .any ops.pop (adP (qW ρ') 0 P ops p Q) ops.pop.size (Array.replicate ops.pop.size false) ca w:=by
   refine GL (H:=H) kn hc a s e1 a1 s1 q1 E g w ca _ ρ' hρ hR (hA.first iR) (hF.first iR.next) ha fun E' ce mH w' hx he ha' tJ=>?_
   obtain⟨iY,kj,oK,lD⟩:=chain q1 iR hA hF hx;cases e1 with
   |normal=>
    cases ce<;>first|exact he.elim|skip
    exact iD H kn hc [p] a1 s1 e a' s' q2 E' _ w' mH Q ρ' (hρ.mono hx.keep) tJ iY kj ha' fun E2 ce2 ca2 w2 hx2 wM ha2 qM=>hQ E2 ce2 ca2 w2 (oK E2 hx2) wM ha2 (by rw [lD] at qM;exact qM)
   |_=>
    obtain⟨h4,rfl⟩:=pure_run q2;cases h4;have:=hQ E' ce mH w' hx he ha' tJ;cases ce<;>first|exact he.elim|exact this
  have key:=OI (F:=qW ρ') (n:=0) (P:=P) (Q:=Q) h1 h2 (fun i hi=>by rw [←heq];exact h3 i hi) ops.pop.size (Array.replicate ops.pop.size false) ca w ai (fun j o e hj=>by
   simp [Array.getElem?_replicate] at hj;split at hj<;>simp at hj) (by rw [←heq];exact main)
  exact Vn
end Go.Am
/- A part of the proof. Conditions: none. -/
set_option maxRecDepth 100000
set_option maxHeartbeats 8000000
namespace Go.Am
open Go Go.RowKit
variable {μ:Type} {I:gT μ} {P:Program} {lo:dP} {w0:Bs} {E:Env}
def fK {α:Type} (P:Program) (c:Sem α):Prop:=∀w v w',c.run P w=.ok v w'→w'=w
theorem fK.pure {α:Type} (a:α):fK P (Pure.pure a:Sem α):=fun w v w' h=>by cases h;rfl
theorem fK.halt {α:Type} (x:Halt):fK P (Sem.halt x:Sem α):=fun w v w' h=>by cases h
theorem fK.bind {α β:Type} {c:Sem α} {f:α→Sem β} (h:fK P c) (hf:∀a,fK P (f a)):fK P (c>>=f):=fun w v w' hr=>by
 rw [Sem.run_bind] at hr;cases hc:c.run P w with
 |halt x w1=>rw [hc] at hr;cases hr
 |ok a w1=>
  rw [hc] at hr;have:=h w a w1 hc;subst this;exact hf a _ _ _ hr
theorem fK.program:fK P program:=fun w v w' h=>by cases h;rfl
theorem fK.info (t:TypeId):fK P (typeInfo t):=by
 unfold typeInfo;refine fK.bind fK.program fun p=>?_
 split
 ·exact fK.pure _
 ·exact fK.halt _
theorem fK.under (t:TypeId):fK P (underlying t):=by
 unfold underlying;refine fK.bind fK.program fun p=>?_
 split
 ·exact fK.pure _
 ·exact fK.halt _
theorem fK.load (a:Addr) (m:Mode):fK P (load a m):=fun w v w' h=>by
 rw [run_load] at h;split at h
 ·cases h;rfl
 ·split at h
  ·cases h;rfl
  ·cases h
theorem fK.cells (a:Addr):∀(n i:Nat) (acc:Array Value),fK P (loadCellsFrom a i n acc)
 |0,i,acc=>fK.pure _
 |n+1,i,acc=>by
  unfold loadCellsFrom;exact fK.bind (fK.load _ _) fun v=>fK.cells a n _ _
theorem fK.var (t:TypeId) (a:Addr):fK P (loadVar t a):=by
 unfold loadVar isAgg;refine fK.bind (fK.bind (fK.under t) fun d=>?_) fun b=>?_
 ·split<;>exact fK.pure _
 ·split
  ·refine fK.bind (fK.bind (fK.info t) fun i=>fK.pure _) fun n=>fK.bind (fK.cells a n 0 _) fun cs=>fK.pure _
  ·exact fK.load _ _
theorem Db {α β:Type} (f:α→Sem β) (xs:Array α):(xs.mapM f)=(do let l←xs.toList.mapM f;pure l.toArray):=by
 obtain⟨l⟩:=xs;rw [List.mapM_toArray,map_eq_pure_bind]
theorem wu {a:aD} {ca:Act}:∀(l:List ResultVar) (E:Env) (H:(Nat→Option Obj)→Prop),(∀i,VR E (a.val i) (ca.tmps.getD i undef))→au P lo w0 E H (Qg P a l:M I (List Value)) (l.mapM fun
  | .tmp t=>pure (ca.tmps.getD t undef)
  | .cell x t=>do loadVar t (←asAddr (ca.tmps.getD x undef))) LR
 |[],E,H,ha=>au.pure fun E1 hE=>⟨rfl,fun a c j h=>by simp at h⟩
 | .tmp t::l,E,H,ha=>by
  rw [List.mapM_cons];refine au.left (b:=ca.tmps.getD t undef) (fun w=>rfl) (au.bind (wu l E H ha) fun E1 vs cs hE wJ=>au.pure fun E2 Bh=>?_);refine⟨by simp [wJ.1],fun x y j hx hy=>?_⟩;rcases j with _|j
  ·simp only [List.getElem?_cons_zero,Option.some.injEq] at hx hy;subst hx;subst hy;exact(ha t).mono fun k x hk=>Bh k x (hE k x hk)
  ·simp only [List.getElem?_cons_succ] at hx hy;exact(wJ.2 x y j hx hy).mono Bh
 | .cell x t::l,E,H,ha=>by
  rw [List.mapM_cons];have hv:=ha x;refine au.bind (R:=VR) (c:=do loadVar t (←asAddr (ca.tmps.getD x undef))) ?_ fun E1 v v' hE hvv=>au.bind (wu l E1 P6 fun i=>(ha i).mono hE) fun E2 vs cs Bh wJ=>au.pure fun E3 Uw=>?_
  ·unfold BG;generalize ca.tmps.getD x undef=q at hv;split
   ·rename_i k o JM;rw [JM] at hv;cases hv with
    |ptr hk=>exact au.left (b:=_) (fun w=>rfl) (wz hk)
   ·exact au.fail
  ·refine⟨by simp [wJ.1],fun x y j hx hy=>?_⟩;rcases j with _|j
   ·simp only [List.getElem?_cons_zero,Option.some.injEq] at hx hy;subst hx;subst hy;exact hvv.mono fun k x hk=>Uw k x (Bh k x hk)
   ·simp only [List.getElem?_cons_succ] at hx hy;exact(wJ.2 x y j hx hy).mono Uw
theorem B1 (fn:Func) (tmps:Array Value):fK P (results fn tmps):=by
 unfold results;refine fK.bind ?_ fun vs=>fK.pure _
 rw [Db];refine fK.bind ?_ fun vs=>fK.pure _
 induction fn.results.toList with
 |nil=>exact fK.pure _
 |cons r l ih=>
  rw [List.mapM_cons];refine fK.bind ?_ fun v=>fK.bind ih fun vs=>fK.pure _
  cases r with
  |tmp t=>exact fK.pure _
  |cell x t=>
   refine fK.bind ?_ fun a=>fK.var t a
   cases tmps.getD x undef<;>first|exact fK.halt _|skip
   rename_i p;cases p with
   |some p=>exact fK.pure _
   |none=>exact fun w v w' h=>by simp [asAddr,runtimePanic] at h
theorem L3 {fn:Func} {a:aD} {ca:Act} (ha:∀i,VR E (a.val i) (ca.tmps.getD i undef)):au P lo w0 E P6 (XP P fn a:M I Value) (results fn ca.tmps) VR:=by
 unfold XP results;rw [Db,bind_assoc];refine au.bind (wu _ E _ ha) fun E1 vs cs hE wJ=>?_
 rw [pure_bind];obtain⟨h1,h2⟩:=wJ;split
 ·rename_i v;obtain⟨c,rfl⟩:=List.length_eq_one_iff.1 h1.symm;refine au.pure fun E2 Bh=>?_
  have:VR E1 v c:=h2 v c 0 rfl rfl;simpa using this.mono Bh
 ·rename_i vs hne;refine au.pure fun E2 Bh=>?_
  have ahp:¬cs.toArray.size=1:=fun h=>by
   simp at h;obtain⟨v,hv⟩:=List.length_eq_one_iff.1 (h1.trans h);exact hne v hv
  rw [dif_neg ahp];exact .tuple (by simpa using h1) fun x y j hx hy=>(h2 x y j (by simpa using hx) (by simpa using hy)).mono Bh
theorem Rel.Yg {g:Nat→Option Obj} {w w':World} (h:Rel P lo w0 E g w) (hb:Below w.heap.size w w'):Rel P lo w0 E g w':=
 ⟨h.below.trans (hb.mono h.below.size),fun k o hk=>by
  obtain⟨b,r,co,h1,h2,h3⟩:=h.tie k o hk;exact⟨b,r,co,h1,by rw [hb.block b (Array.getElem?_eq_some_iff.1 h2).1];exact h2,h3⟩,h.inj,h.own,h.old,h.kept⟩
theorem lu.same {ρ:Option Nat} {a:aD} {x:bF} {C:Option Nat→(Exit→Act→World→Prop)→Act→World→Prop} (h:∀E ca w Q ce ρ',zT E x ce→Q ce ca w→C ρ' Q ca w) (hx:∀E,∃ce,zT E x ce):lu P lo w0 ρ (pure (x,a):M I (bF × aD)) a C:=by
 intro s e a' s' hr E g w ca Q ρ' hρ hR hA hF ha hQ;obtain⟨h1,rfl⟩:=pure_run hr;cases h1;obtain⟨ce,hce⟩:=hx E;exact h E ca w Q ce ρ' hce (hQ E ce ca w (.refl _ _) hce ha xO)
theorem GU {self:Self I} (hc:fD P lo w0 self.code) (ρ:Option Nat) (c:Code):∀(n:Nat) (a:aD),lu P lo w0 ρ (K6 self ρ c n a) a (fun ρ' Q ca w=>Code.roundsIn (qW ρ') 0 P c Q n ca w)
 |0,a=>fun s e a' s' hr=>(aB hr).elim
 |n+1,a=>by
  intro s e a' s' hr E g w ca Q ρ' hρ hR hA hF ha hQ;obtain⟨⟨x,a1⟩,s1,h1,h2⟩:=ax hr;have hle:St.Le I s1 s':=M.le _ _ _ _ h2;show c.wpIn (qW ρ') 0 P _ ca w;refine hc ρ c a s x a1 s1 h1 E g w ca _ ρ' hρ hR (hA.first hle) (hF.first hle.next) ha fun E1 ce nC w1 hx1 qB ha1 nu=>?_
  obtain⟨iY,kj,oK,lD⟩:=chain h1 hle hA hF hx1;cases x with
  |normal=>
   cases ce<;>simp only [zT] at qB<;>first|exact qB.elim|skip
   exact GU hc ρ c n a1 s1 e a' s' h2 E1 _ w1 nC Q ρ' (hρ.mono hx1.keep) nu iY kj ha1 fun E' ce mH w' za Dp ha' tJ=>hQ E' ce mH w' (oK E' za) Dp ha' (by rw [lD] at tJ;exact tJ)
  |exit id=>
   exact vF
  |ret=>
   exact Ak
  |panic v=>
   exact vF
theorem Dc {b:Frame} {a:Act} {k:List Item} {cs:List Frame} {w:World} {c:Code}:step P (lone (b.atR a (.code (.scope c)::k)) cs w)=.next (lone (b.atR a (.code c::.inScope c::k)) cs w):=
 step_lone_go (by simp [stepG,stepG.exec,Frame.atR])
theorem wU {b:Frame} {a:Act} {k:List Item} {cs:List Frame} {w:World} {c:Code}:step P (lone (b.atR a (.inScope c::k)) cs w)=.next (lone (b.atR a k) cs w):=
 step_lone_go (by simp [stepG,stepG.exec,Frame.atR])
theorem nL {F:Fence} {n:Nat} {Q:Exit→Act→World→Prop} {a:Act} {w:World} {c:Code} (h:c.wpIn F n P (Exit.noGoto Q) a w):(Code.scope c).wpIn F n P Q a w:=by
 intro b k cs hro hb hr;obtain⟨e,a₁,w₁,hq,tu⟩:=h b (.inScope c::k) cs hro hb hr;have s0:StepsIn (Machine.fenced P F) P (lone (b.atR a (.code (.scope c)::k)) cs w) (lone (b.atR a (.code c::.inScope c::k)) cs w):=.one (fenced_calm hb hr rfl) Dc;cases e with
 |normal=>exact⟨.normal,a₁,w₁,hq,StepsIn.trans s0 (StepsIn.trans tu (.one (fenced_calm hb hr rfl) wU))⟩
 |exit id=>
  have hx:exitTo id (.inScope c::k)=exitTo id k:=by simp [exitTo]
  exact⟨.exit id,a₁,w₁,hq,fun k' hk=>StepsIn.trans s0 (tu.1 k' (by rw [hx];exact hk)),fun Dz hk=>let ⟨k₁,h1,h2⟩:=tu.2 Dz (by rw [hx];exact hk);⟨k₁,h1,StepsIn.trans s0 h2⟩⟩
 |goto l=>exact hq.elim
 |ret=>exact⟨_,a₁,w₁,hq,.of_steps s0 tu⟩
 |panic ch=>exact⟨_,a₁,w₁,hq,.of_steps s0 tu⟩
 |outgrown=>exact⟨_,a₁,w₁,hq,.of_steps s0 tu⟩
theorem FE {o co:Obj} {k:Nat} {s s1:St μ} (h:(new o:M I Nat).run s=some (k,s1)) {E:Env} {g:Nat→Option Obj} {w:World} (hR:Rel P lo w0 E g w) (hA:dh I s s1 g) (hF:eR s s1 E)
  (ho:∀E',(∀i x,E i=some x→E' i=some x)→OR P E' 0 o co):∃E1,Env.Ext E E1 s.next s1.next∧E1 k=some (w.heap.size,0)∧Rel P lo w0 E1 (merge I s1 g) (w.alloc co):=by
 obtain⟨rfl,e2,e3,e4,e5,e6⟩:=zj h;have hk:E s.next=none:=hF s.next (Nat.le_refl _) aa;refine⟨E.put s.next w.heap.size 0,⟨Env.ey hk,fun i hi=>?_⟩,by simp [Env.put], ?_⟩
 ·exact Mc
 ·rw [gI hA e5 e6];refine hR.name hk (hR.alloc _) hR.below.size (eB w _) (fun i _ hi=>Below.heap_alloc w _ i hi) (fun i o' r' hi he=>?_) (ho _ (Env.ey hk));exact absurd (hR.lt hi he) (Nat.lt_irrefl _)
theorem wA {E:Env} {a:aD} {ca:Act} (ha:kH E a ca):fQ E (tmpsOf a) ca.tmps:=by
 refine⟨by simp [tmpsOf,ha.size],fun x y j hx hy=>?_⟩;have hj:j<ca.tmps.size:=(Array.getElem?_eq_some_iff.1 hy).1;have h1:=ha.val j;have h2:ca.tmps.getD j undef=y:=by simp [Array.getD_eq_getD_getElem?,hy]
 have h3:x=a.val j:=by
  unfold tmpsOf at hx;rw [List.getElem?_toArray,List.getElem?_map] at hx;have hj':j<a.n:=by rw [←ha.size];exact hj
  rw [List.getElem?_range hj'] at hx;simpa using hx.symm
 rw [h3,←h2];exact h1
theorem Pm {ρ ρ':Option Nat} {a:aD} {ca:Act} {ps:Array Tmp} {as b:Code} {l:Nat} {mark:List Deferred} {s s1:St μ} (h:(oF ρ a ps as b:M I (Nat × List Deferred)).run s=some ((l,mark),s1)) {E:Env} {g:Nat→Option Obj} {w:World}
  (hρ:OV E ρ ρ') (hR:Rel P lo w0 E g w) (hA:dh I s s1 g) (hF:eR s s1 E) (ha:kH E a ca) (fn:FuncId):
  ∃E1 bl GV w1,(Instr.enterLoop fn ca.tmps ps as b ρ').run P w=.ok (bl,GV) w1∧Env.Ext E E1 s.next s1.next∧(∃q,E1 l=some (bl,q))∧kH E1 (marked a mark) {ca with defers:=GV++ca.defers}∧Rel P lo w0 E1 (merge I s1 g) w1:=by
 unfold oF at h;cases ρ with
 |none=>
  cases ρ' with
  |some x=>exact hρ.elim
  |none=>
  simp only at h;obtain⟨r,s2,h1,h2⟩:=ax h;obtain⟨l',s3,h3,h4⟩:=ax h2;obtain⟨h5,rfl⟩:=pure_run h4;cases h5;have l1:=(new (I:=I) (.deferred (some []))).le _ _ _ h1;have l2:=M.le _ _ _ _ h3;obtain⟨E1,x1,k1,R1⟩:=FE h1 hR (hA.first l2) (hF.first l2.next) (co:=.deferred (some [])) (fun _ _=>.collected);obtain⟨iY,kj,oK,lD⟩:=chain h1 l2 hA hF x1;have ht:=wA (ha.mono x1.keep);obtain⟨E2,x2,k2,R2⟩:=FE h3 R1 iY kj (co:=.loop {state:=.ready,pending:=none,fn,tmps:=ca.tmps,params:=ps,assign:=as,body:=b,defers:=w.heap.size})
   (fun E' hE'=>.loop rfl rfl rfl rfl rfl ht.1 (fun a c j h1 h2=>(ht.2 a c j h1 h2).mono hE') (hE' _ _ k1))
  have hx:=oK E2 x2;refine⟨E2,_,_,_,run_enterLoop_outer fn ca.tmps ps as b,hx,⟨0,by rw [k2,World.size_alloc]⟩, ?_,by rw [lD] at R2;exact R2⟩;have hm:=ha.mono hx.keep;refine⟨hm.size,hm.val,by simp [marked,hm.len],fun j d d' hd hd'=>?_⟩;rcases j with _|j
  ·simp [marked] at hd hd';subst hd hd';exact .inr ⟨_,_,0,rfl,rfl,x2.keep _ _ k1⟩
  ·simp [marked] at hd hd';exact hm.defers j d d' hd hd'
 |some k=>
  cases ρ' with
  |none=>exact hρ.elim
  |some bk=>
  obtain⟨q,hq⟩:=hρ;simp only at h;obtain⟨ob,s2,h1,h2⟩:=ax h;cases ob with
  |loop r0=>
   simp only at h2;obtain⟨l',s3,h3,h4⟩:=ax h2;obtain⟨h5,rfl⟩:=pure_run h4;cases h5;obtain⟨e1,e2,e3,e4,e5⟩:=ow h1;have l2:=M.le _ _ _ _ h3;have hm:merge I s2 g=g:=eH (hA.first l2) (fun k=>by rw [e4]) (fun k=>by rw [e3]);have l1:=(rd (I:=I) k).le _ _ _ h1;have iY:dh I s2 s1 g:=by have:=hA.second l1 l2;rwa [hm] at this
   have kj:eR s2 s1 E:=fun i h1 h2=>hF i aa h2
   have hg:g k=some (.loop r0):=Ma;obtain⟨y,q',y0,y1,y2,y3,y4,y5,y6,y7⟩:=tK hR hg hq;have ht:=wA ha;obtain⟨E2,x2,k2,R2⟩:=FE h3 hR iY kj (co:=.loop {state:=.ready,pending:=none,fn,tmps:=ca.tmps,params:=ps,assign:=as,body:=b,defers:=y.defers})
    (fun E' hE'=>.loop rfl rfl rfl rfl rfl ht.1 (fun a c j h1 h2=>(ht.2 a c j h1 h2).mono hE') (hE' _ _ y7))
   have hx:Env.Ext E E2 s.next s1.next:=⟨x2.keep,fun i hi=>(x2.dom i hi).imp id fun h=>by rw [e2] at h;exact h⟩;refine⟨E2,_,_,_,run_enterLoop_inner y0 fn ca.tmps ps as b,hx,⟨0,k2⟩, ?_,R2⟩;have hm:=ha.mono hx.keep;exact⟨hm.size,hm.val,by simp [marked,hm.len],fun j d d' hd hd'=>hm.defers j d d' (by simpa [marked] using hd) (by simpa using hd')⟩
  |_=>exact(aB h2).elim
theorem Pn {X:Hk} (H:Plain P X w0.w) {self:Self I} (hk:fC P lo w0 self.call) {ρ:Option Nat} (g0:Operand) (ps:Array Tmp) (as b:Code) (a:aD):lu P lo w0 ρ (zB X lo self ρ g0 ps as b a) a (fun ρ' Q ca w=>(Code.rangeFunc g0 ps as b).wpIn (qW ρ') 0 P Q ca w):=by
 intro s e a' s' hr E g w ca Q ρ' hρ hR hA hF ha hQ;unfold zB at hr;obtain⟨⟨l,mark⟩,s1,h1,h2⟩:=ax hr;have hle:St.Le I s1 s':=M.le _ _ _ _ h2;unfold K5 at h2;split at h2
 ·rename_i f first cap hv
  cases hx:X.X f with
  |false=>rw [hx] at h2;exact(aB h2).elim
  |true=>
   rw [hx,cond_true] at h2;obtain⟨en,s2,h3,h4⟩:=ax h2;have iR:St.Le I s2 s':=M.le _ _ _ _ h4;obtain⟨Yf,f1,f2,f3⟩:=H.x f hx;have f3':Yf.body≠none:=fun e=>by rw [e] at f3;cases f3
   have f2' : ¬ Yf.name = "runtime.NumGoroutine" := by simpa using f2
   have Yn:=ha.ev (lo:=lo) hR.old _ _ hv;generalize hq:ca.eval g0=gv at Yn;cases Yn with
   | @func _ _ _ cs ds g1 g2 g3 g4=>
    refine wpIn_rangeFunc fun fn _=>?_
    obtain⟨E1,bl,GV,w1,hrun,x1,⟨q,Dn⟩,ha1,R1⟩:=Pm (ρ':=ρ') h1 hρ hR (hA.first hle) (hF.first hle.next) ha fn;obtain⟨iY,kj,oK,lD⟩:=chain h1 hle hA hF x1;refine⟨bl,GV,w1,{target:=.fn (.func f) ds,args:=cs++#[.func (.yield bl) #[] #[]]},w1,f,cs++#[.func (.yield bl) #[] #[]]++ds,w1,hrun, ?_,fun _ _=>trivial, ?_,iA,mU ?_⟩
    ·have hc:ca.eval (.const (.func (.yield bl) #[] #[]))=.func (.yield bl) #[] #[]:=rfl;simp [resolve,hq,hc,Deferred.ofValue]
    ·simp [invoke,callFunc,f1,f2',f3']
    ·have cM:fQ E1 (first++#[.func (.yield l) #[] #[]]++cap) (cs++#[.func (.yield bl) #[] #[]]++ds):=
      fQ.append (fQ.append (fQ.mono x1.keep ⟨g1,g2⟩) ⟨rfl,fun x y j hx hy=>by
       rcases j with _|j
       ·simp at hx hy;subst hx hy;exact .yield Dn
       ·simp at hx⟩) (fQ.mono x1.keep ⟨g3,g4⟩)
     refine(hk f _ s1 en s2 h3 E1 _ w1 _ R1 (iY.first iR) (kj.first iR.next) cM).mono fun e2 w2 ⟨E2,x2,hen,R2⟩=>?_
     obtain⟨Dt,hF2,LX,wG⟩:=chain h3 iR iY kj x2;have ha2:=ha1.mono x2.keep;have P9:=x2.keep _ _ Dn;unfold ux at h4;cases en with
     |panic v=>
      cases e2 with
      |returned v'=>exact hen.elim
      |outgrown=>exact hen.elim
      |panicked c=>
       simp only at h4;obtain⟨h5,rfl⟩:=pure_run h4;cases h5;exact hQ E2 (.panic c) _ w2 (oK E2 x2) hen ha2 (by rw [lD] at R2;exact R2)
     |ret v=>
      cases e2 with
      |panicked c=>exact hen.elim
      |outgrown=>exact hen.elim
      |returned v'=>
       simp only at h4;obtain⟨jump,s3,h5,h6⟩:=ax h4;have jS:St.Le I s3 s':=M.le _ _ _ _ h6;unfold BD at h5;obtain⟨ob,s4,h7,h8⟩:=ax h5;cases ob with
       |loop r=>
        simp only at h8;have hst:r.state≠ .busy:=fun e=>by rw [e] at h8;exact(aB h8).elim
        have h8':(wr lo l (some (.loop {r with state:=.exhausted}))>>=fun _=>pure r.pending:M I (Option Code)).run s4=some (jump,s3):=by
         cases hs:r.state<;>rw [hs] at h8<;>first|exact absurd hs hst|exact h8
        obtain⟨u,s5,h9,h10⟩:=ax h8';obtain⟨h11,rfl⟩:=pure_run h10;have hgr:merge I s2 (merge I s1 g) l=some (.loop r):=by
         obtain⟨e1',e2',e3',e4',e5'⟩:=ow h7;have l6:=M.le _ _ _ _ h9;rw [(Dt.first jS) l (by rw [l6.T l e5',Bool.true_or]),e1']
        obtain⟨y,q',y0,y1,y2,y3,y4,y5,y6,y7⟩:=tK R2 hgr P9;obtain⟨n1,R3⟩:=Aw h7 h9 R2 (Dt.first jS) P9 y0 (y':={y with state:=.exhausted}) (fun q=>.loop rfl y2 y3 y4 y5 y6.1 y6.2 y7);have x3:Env.Ext E2 E2 s2.next s3.next:=⟨fun _ _ h=>h,fun _ h=>.inl h⟩;obtain⟨hA3,hF3,hX3,hm3⟩:=chain h5 jS Dt hF2 x3;refine⟨y.pending,_,run_endLoop y0 (by rw [y1];exact hst), ?_⟩;rw [y2,←h11];rw [y2,←h11] at R3;have nc:merge I s3 (merge I s2 (merge I s1 g))=merge I s3 g:=by rw [jm _ (M.le _ _ _ _ h5),jm _ ((M.le _ _ _ _ h3).trans (M.le _ _ _ _ h5))]
        rw [nc] at R3;unfold UM at h6;split at h6
        ·obtain⟨j1,rfl⟩:=pure_run h6;cases j1;exact hQ E2 .normal _ _ (oK E2 (LX E2 x3)) trivial ha2 R3
        ·obtain⟨j1,rfl⟩:=pure_run h6;cases j1;exact wpIn_ret (hQ E2 .ret _ _ (oK E2 (LX E2 x3)) trivial ha2 R3)
        ·obtain⟨j1,rfl⟩:=pure_run h6;cases j1;exact wpIn_exit (hQ E2 (.exit _) _ _ (oK E2 (LX E2 x3)) rfl ha2 R3)
        ·exact(aB h6).elim
       |_=>exact(aB h8).elim
 ·exact(aB h2).elim
theorem QE (hm:P.follows .mixedOrders=true) {X:Hk} (H:Plain P X w0.w) {self:Self I} (hc:fD P lo w0 self.code) (hk:fC P lo w0 self.call):fD P lo w0 (BF P X lo self):=by
 intro ρ c a;cases c with
 |skip=>exact lu.same (fun E ca w Q ce _ he hq=>by cases ce<;>simp only [zT] at he<;>first|exact he.elim|exact wpIn_skip hq) (fun E=>⟨.normal,trivial⟩)
 |label l=>exact lu.same (fun E ca w Q ce _ he hq=>by cases ce<;>simp only [zT] at he<;>first|exact he.elim|exact wpIn_label hq) (fun E=>⟨.normal,trivial⟩)
 |ret=>exact lu.same (fun E ca w Q ce _ he hq=>by cases ce<;>simp only [zT] at he<;>first|exact he.elim|exact wpIn_ret hq) (fun E=>⟨.ret,trivial⟩)
 |exit id=>exact lu.same (fun E ca w Q ce _ he hq=>by cases ce<;>simp only [zT] at he<;>first|exact he.elim|(subst he;exact wpIn_exit hq)) (fun E=>⟨.exit id,rfl⟩)
 |seq x y=>
  intro s e a' s' hr E g w ca Q ρ' hρ hR hA hF ha hQ;obtain⟨⟨x1,a1⟩,s1,h1,h2⟩:=ax hr;have hle:St.Le I s1 s':=M.le _ _ _ _ h2;refine wpIn_seq (hc ρ x a s x1 a1 s1 h1 E g w ca _ ρ' hρ hR (hA.first hle) (hF.first hle.next) ha fun E1 ce nC w1 hx1 qB ha1 nu=>?_);obtain⟨iY,kj,oK,lD⟩:=chain h1 hle hA hF hx1;cases x1 with
  |normal=>
   cases ce<;>simp only [zT] at qB<;>first|exact qB.elim|skip
   exact hc ρ y a1 s1 e a' s' h2 E1 _ w1 nC Q ρ' (hρ.mono hx1.keep) nu iY kj ha1 fun E' ce mH w' za Dp ha' tJ=>hQ E' ce mH w' (oK E' za) Dp ha' (by rw [lD] at tJ;exact tJ)
  |exit id=>
   exact vF
  |ret=>
   exact Ak
  |panic v=>
   exact vF
 |cond c x y=>
  intro s e a' s' hr E g w ca Q ρ' hρ hR hA hF ha hQ;change (K0 lo self ρ c x y a).run s=_ at hr;unfold K0 at hr;split at hr
  ·rename_i b hb;have hv:=ha.ev (lo:=lo) hR.old _ _ hb;generalize hq:ca.eval c=q at hv;cases hv;refine wpIn_cond hq ?_;cases b with
   |true=>exact hc ρ x a s e a' s' hr E g w ca Q ρ' hρ hR hA hF ha hQ
   |false=>exact hc ρ y a s e a' s' hr E g w ca Q ρ' hρ hR hA hF ha hQ
  ·exact(aB hr).elim
 |block id b=>
  intro s e a' s' hr E g w ca Q ρ' hρ hR hA hF ha hQ;obtain⟨⟨x1,a1⟩,s1,h1,h2⟩:=ax hr;have hle:St.Le I s1 s':=M.le _ _ _ _ h2;refine wpIn_block (hc ρ b a s x1 a1 s1 h1 E g w ca _ ρ' hρ hR (hA.first hle) (hF.first hle.next) ha fun E1 ce nC w1 hx1 qB ha1 nu=>?_);cases x1 with
  |normal=>
   exact Ak
  |exit j=>
   cases ce<;>simp only [zT] at qB<;>first|exact qB.elim|skip
   subst qB;change (bif Nat.beq j id then(pure (.normal,a1):M I (bF × aD)) else pure (.exit j,a1)).run s1=_ at h2;cases hb:Nat.beq j id with
   |true=>
    rw [hb] at h2;obtain⟨h3,rfl⟩:=pure_run h2;cases h3;have:=Nat.eq_of_beq_eq_true hb;subst this;show(if j=j then Q .normal nC w1 else Q (.exit j) nC w1);rw [if_pos rfl];exact hQ E1 .normal nC w1 hx1 trivial ha1 nu
   |false=>
    rw [hb] at h2;obtain⟨h3,rfl⟩:=pure_run h2;cases h3;have hne:j≠id:=fun e=>by subst e;simp at hb
    show(if j=id then Q .normal nC w1 else Q (.exit j) nC w1);rw [if_neg hne];exact hQ E1 (.exit j) nC w1 hx1 rfl ha1 nu
  |ret=>
   exact Ak
  |panic v=>
   exact vF
 |loop b=>
  intro s e a' s' hr E g w ca Q ρ' hρ hR hA hF ha hQ;exact wpIn_loop_rounds 1000000 (GU hc ρ b 1000000 a s e a' s' hr E g w ca Q ρ' hρ hR hA hF ha hQ)
 |scope b=>
  intro s e a' s' hr E g w ca Q ρ' hρ hR hA hF ha hQ;refine nL (hc ρ b a s e a' s' hr E g w ca _ ρ' hρ hR hA hF ha fun E' ce mH w' za Dp ha' tJ=>?_);have:=hQ E' ce mH w' za Dp ha' tJ;cases ce with
  |goto l=>cases e<;>exact Dp.elim
  |normal=>exact this
  |exit i=>exact this
  |ret=>exact this
  |panic c=>exact this
  |outgrown=>exact this
 |region id ops draw=>
  cases draw with
  |false=>
   intro s e a' s' hr E g w ca Q ρ' hρ hR hA hF ha hQ;exact wpIn_region_list (iD H hc hk ops.toList a s e a' s' hr E g w ca Q ρ' hρ hR hA hF ha hQ)
  |true=>
   intro s e a' s' hr E g w ca Q ρ' hρ hR hA hF ha hQ;exact wpIn_region_any hm (OJ (H:=H) hc hk a s e a' s' hr E g w.drew ca Q ρ' hρ (wB hR) hA hF ha hQ)
 |rangeFunc g ps as b=>exact Pn H hk g ps as b a
 |goto l=>exact fun s e a' s' hr=>(aB hr).elim
 |refuse why=>exact fun s e a' s' hr=>(aB hr).elim
def Yh (P:Program) (lo:dP) (w0:Bs) (K:Qh I):Prop:=∀h,K=some h→∀f args m,h f args=some m→∀s r s',m.run s=some (r,s')→∀E g w dX,Rel P lo w0 E g w→dh I s s' g→eR s s' E→fQ E args dX→
 Calls P f dX w fun e w'=>∃E',Env.Ext E E' s.next s'.next∧EnR E' r e∧Rel P lo w0 E' (merge I s' g) w'
end Go.Am
/- A part of the proof. Conditions: none. -/
set_option maxRecDepth 100000
set_option maxHeartbeats 8000000
namespace Go.Am
open Go Go.RowKit
noncomputable section
variable {μ:Type} {I:gT μ} {P:Program} {lo:dP} {w0:Bs} {E:Env}
inductive oI where
 |ret
 |panic (v:Value) (age:Bool)
def oI.settle:oI→oI
 | .panic _ true=>.ret
 |m=>m
def Iz (E:Env):oI→FrameMode→Prop
 | .ret,.returning=>True
 | .panic v c,.panicking ch=>∃v',ch=[{v:=v',recovered:=c}]∧VR E v v'
 |_,_=>False
theorem Iz.mono {E E':Env} (hE:∀k x,E k=some x→E' k=some x) {u:oI} {m:FrameMode} (h:Iz E u m):Iz E' u m:=by
 cases u<;>cases m<;>first|exact h.elim|trivial|skip
 obtain⟨v',h1,h2⟩:=h;exact⟨v',h1,h2.mono hE⟩
theorem Iz.settle {u:oI} {m:FrameMode} (h:Iz E u m):Iz E u.settle (Go.settle m):=by
 cases u<;>cases m<;>first|exact h.elim|trivial|skip
 rename_i v c ch;obtain⟨v',rfl,h2⟩:=h;cases c with
 |true=>exact trivial
 |false=>exact⟨v',rfl,h2⟩
def isRec (o:Oper):Bool:=match o.op with
 | .call c=>match c.callee with
  | .builtin .recover=>true
  |_=>false
 |_=>false
abbrev nK:=(bF × aD) × oI
def thenS (k:aD→oI→M I nK) (u:oI) (r:bF × aD):M I nK:=match r with
 |(.normal,a1)=>k a1 u
 |r=>pure (r,u)
def agf (o:Oper) (k:aD→oI→M I nK) (a:aD) (u:oI):M I nK:=match u with
 | .panic v false=>iQ a o.dst v>>=fun a1=>k a1 (.panic v true)
 |u=>iQ a o.dst .nilIface>>=fun a1=>k a1 u
def QB (a:aD) (o:Oper) (k:aD→oI→M I nK) (u:oI) (e:jz):M I nK:=match e with
 | .ret v=>iQ a o.dst v>>=fun a1=>k a1 u
 | .panic v=>pure ((.panic v,a),u)
def Yd (self:Self I) (a:aD) (o:Oper) (k:aD→oI→M I nK) (u:oI) (r:bB):M I nK:=match r with
 | .val v=>iQ a o.dst v>>=fun a1=>k a1 u
 | .call f args=>self.call f args>>=QB a o k u
 |_=>fail
def EB (P:Program) (X:Hk) (lo:dP) (self:Self I) (ops:Array Oper):List Oper→aD→oI→M I nK
 |[],a,u=>pure ((.normal,a),u)
 |o::rest,a,u=>bif gC ops a o then(bif isRec o then agf o (EB P X lo self ops rest) a u else fY P X lo (zA lo a) o>>=Yd self a o (EB P X lo self ops rest) u) else iQ a o.dst undef>>=fun a1=>EB P X lo self ops rest a1 u
def U9 (u:oI) (r:bF × aD):M I nK:=pure (r,u)
def acC (k:aD→oI→M I nK) (r:nK):M I nK:=match r with
 |((.normal,a1),u1)=>k a1 u1
 |r=>pure r
def B0 (P:Program) (X:Hk) (lo:dP) (self:Self I):Code→aD→oI→M I nK
 | .seq x y,a,u=>B0 P X lo self x a u>>=acC (B0 P X lo self y)
 | .region _ ops false,a,u=>EB P X lo self ops ops.toList a u
 |c,a,u=>self.code none c a>>=U9 u
def Va (r:nK):M I oI:=match r with
 |((.normal,⟨_,_,[]⟩),u)=>pure u
 |((.ret,⟨_,_,[]⟩),u)=>pure u
 |_=>fail
def zS (args:Array Value) (fn:Func):aD:=⟨args.size+(fn.ntmps - args.size),uR args.toList 0 .leaf,[]⟩
def EC (P:Program) (X:Hk) (lo:dP) (self:Self I) (f:FuncId) (args:Array Value) (u:oI):M I oI:=match P.funcs[f]? with
 |some fn=>match fn.body with
  |some c=>bif Nat.blt args.size 4000 && fn.results.isEmpty then B0 P X lo self c (zS args fn) u>>=Va else fail
  |none=>fail
 |none=>fail
def acD (P:Program) (fn:Func) (a:aD) (u:oI):M I jz:=match u with
 | .ret=>XP P fn a>>=fun v=>pure (.ret v)
 | .panic v false=>pure (.panic v)
 |_=>fail
def Vb (lo:dP) (k:Nat):M I Unit:=rd k>>=fun o=>match o with
 | .deferred (some [])=>wr lo k (some (.deferred none))
 |_=>fail
def gD (P:Program) (X:Hk) (lo:dP) (self:Self I) (fn:Func) (a:aD):List Deferred→oI→M I jz
 |[],u=>acD P fn a u
 |d::ds,u=>match d.target with
  | .fn (.func f) cap=>bif X.X f then EC P X lo self f (d.args++cap) u>>=fun u1=>gD P X lo self fn a ds u1.settle else fail
  | .collected k=>Vb lo k>>=fun _=>gD P X lo self fn a ds u
  |_=>fail
def acE (P:Program) (X:Hk) (lo:dP) (self:Self I) (fn:Func) (r:bF × aD):M I jz:=match r.1 with
 | .normal=>gD P X lo self fn r.2 r.2.defers .ret
 | .ret=>gD P X lo self fn r.2 r.2.defers .ret
 | .panic v=>gD P X lo self fn r.2 r.2.defers (.panic v false)
 |_=>fail
def LV (P:Program) (X:Hk) (lo:dP) (self:Self I) (args:Array Value) (fn:Func):M I jz:=match fn.body with
 |some c=>bif Nat.blt args.size 4000 then self.code none c (zS args fn)>>=acE P X lo self fn else fail
 |none=>fail
def nB (P:Program) (X:Hk) (lo:dP) (self:Self I) (f:FuncId) (args:Array Value):M I jz:=match X.L f args.toList with
 |some v=>pure (.ret v)
 |none=>match P.funcs[f]? with
  |some fn=>LV P X lo self args fn
  |none=>fail
def qU (P:Program) (X:Hk) (lo:dP) (K:Qh I) (self:Self I) (f:FuncId) (args:Array Value):M I jz:=match K with
 |none=>nB P X lo self f args
 |some h=>match h f args with
  |some m=>m
  |none=>nB P X lo self f args
def xM (P:Program) (X:Hk) (lo:dP) (K:Qh I):Nat→Self I
 |0=>⟨fun _ _ _=>fail,fun _ _=>fail⟩
 |n+1=>⟨BF P X lo (xM P X lo K n),qU P X lo K (xM P X lo K n)⟩
def Gp (P:Program) (X:Hk) (n:Nat) (f:FuncId) (args:Array Value) (p:Value→Bool):Bool:=match ((xM (I:=Ux) P X ⟨0,0⟩ none n).call f args).run (st0 0) with
 |some (.ret v,_)=>p v
 |_=>false
theorem xN {args dX:Array Value} {fn:Func} (hsz:args.size<4000) (cM:fQ E args dX):kH E (zS args fn) {tmps:=dX++Array.replicate (fn.ntmps - dX.size) undef,defers:=[]}:=by
 unfold zS;refine⟨by simp [cM.1],fun i=>?_,rfl,fun j d d' h=>by simp at h⟩;unfold aD.val;simp only;rw [qV args.toList 0 .leaf i aV];simp only [Nat.zero_le,true_and,Nat.zero_add,Nat.sub_zero,Array.length_toList];by_cases hi:i<args.size
 ·rw [if_pos hi];have hi':i<dX.size:=by rw [←cM.1];exact hi
  have:=cM.2 args[i] dX[i] i (by simp [hi]) (by simp [hi']);simpa [hi,hi',Array.getElem?_append] using this
 ·rw [if_neg hi];have hi':¬i<dX.size:=by rw [←cM.1];exact hi
  have:(dX++Array.replicate (fn.ntmps - dX.size) undef).getD i undef=undef:=by
   simp [Array.getElem?_append,hi',Array.getElem?_replicate];split<;>rfl
  rw [this];exact VR.undef E
def ED (P:Program) (lo:dP) (w0:Bs) (m:M I nK) (a:aD) (u:oI) (C:(Exit→Act→List Frame→World→Prop)→Act→List Frame→World→Prop):Prop:=
 ∀s e a' u' s',m.run s=some (((e,a'),u'),s')→∀E g w ca (c0:Frame) (cs:List Frame) (um:FrameMode) Q,Rel P lo w0 E g w→dh I s s' g→eR s s' E→kH E a ca→Iz E u um→
  (∀E' ce mH (JR:FrameMode) w',Env.Ext E E' s.next s'.next→zT E' e ce→kH E' a' mH→Iz E' u' JR→Rel P lo w0 E' (merge I s' g) w'→Q ce mH ({c0 with mode:=JR}::cs) w')→
  C Q ca ({c0 with mode:=um}::cs) w
theorem QC {o:Oper} (h:isRec o=true) (ρ:Operand→Value) (w:World):(execOp ρ o).run P w=.ok .recover w:=by
 unfold isRec at h;split at h
 ·rename_i c hc;split at h
  ·rename_i hb;obtain⟨callee,args,ts⟩:=c;simp only at hb;subst hb;unfold execOp;rw [hc];simp [resolve,invoke,builtin]
  ·cases h
 ·cases h
theorem pW {X:Hk} (hX:Plain P X w0.w) {self:Self I} (hc:fC P lo w0 self.call) {ops:Array Oper}:∀(is:List Nat) (l:List Oper),is.map (fun i=>ops[i]?)=l.map some→∀(a:aD) (u:oI),ED P lo w0 (EB P X lo self ops l a u) a u (fun Q ca cs w=>wpOpsS P ops Q is ca cs w)
 |[],[],_,a,u=>by
  intro s e a' u' s' hr E g w ca c0 cs um Q hR hA hF ha hu hQ;obtain⟨h1,rfl⟩:=pure_run hr;cases h1;exact hQ E .normal ca um w (.refl _ _) trivial ha hu xO
 |[],_::_,h,a,u=>by simp at h
 |_::_,[],h,a,u=>by simp at h
 |i::is,o::rest,h,a,u=>by
  intro s e a' u' s' hr E g w ca c0 cs um Q hR hA hF ha hu hQ;simp only [List.map_cons,List.cons.injEq] at h;obtain⟨ho,h⟩:=h;have hw:=uS (ops:=ops) ha o;unfold EB at hr;cases mg:gC ops a o with
  |false=>
   rw [mg] at hw;simp only [mg,cond_false] at hr;obtain⟨a1,s1,h1,h2⟩:=ax hr;obtain⟨rfl,ha1⟩:=ha.put (VR.undef E) h1;unfold wpOpsS;simp only [ho,hw,Bool.false_eq_true,if_false];exact pW hX hc is rest h a1 u _ e a' u' s' h2 E g w _ c0 cs um Q hR hA hF ha1 hu hQ
  |true=>
  rw [mg] at hw;simp only [mg,cond_true] at hr;cases hwr:isRec o with
  |true=>
   simp only [hwr,cond_true] at hr;have agh:=QC (P:=P) hwr ca.eval w;unfold wpOpsS;simp only [ho,hw,if_true,agh];have go:∀(v v':Value) (u1:oI) (Vc:FrameMode),VR E v v'→Iz E u1 Vc→(iQ a o.dst v>>=fun a1=>EB P X lo self ops rest a1 u1).run s=some (((e,a'),u'),s')→wpOpsS P ops Q is (ca.put o.dst v') ({c0 with mode:=Vc}::cs) w:=fun v v' u1 Vc hv Ga hr=>by
    obtain⟨a1,s1,h1,h2⟩:=ax hr;obtain⟨rfl,ha1⟩:=ha.put hv h1;exact pW hX hc is rest h a1 u1 _ e a' u' s' h2 E g w _ c0 cs Vc Q hR hA hF ha1 Ga hQ
   have hnil:VR E .nilIface .nilIface:=bT E 3 .nilIface rfl;cases u with
   |ret=>
    cases um<;>first|exact(show False from hu).elim|skip
    exact go .nilIface .nilIface .ret .returning hnil trivial hr
   |panic v c=>
    cases um<;>first|exact(show False from hu).elim|skip
    obtain⟨v',rfl,hv⟩:=hu;cases c with
    |false=>exact go v v' (.panic v true) (.panicking [{v:=v',recovered:=true}]) hv ⟨v',rfl,hv⟩ hr
    |true=>exact go .nilIface .nilIface (.panic v true) (.panicking [{v:=v',recovered:=true}]) hnil ⟨v',rfl,hv⟩ hr
  |false=>
   simp only [hwr,cond_false] at hr;obtain⟨r,s1,h1,h2⟩:=ax hr;have iR:St.Le I s1 s':=M.le _ _ _ _ h2;have hev:=ha.ev (lo:=lo) hR.old;obtain⟨E1,nx,w1,hrun,hx1,qC,nu⟩:=oJ (lo:=lo) (w0:=w0) (E:=E) hX hev o s r s1 h1 E g w (fun _ _ h=>h) hR (hA.first iR) (hF.first iR.next) trivial;obtain⟨iY,kj,oK,lD⟩:=chain h1 iR hA hF hx1;have ha1:=ha.mono hx1.keep;unfold wpOpsS;simp only [ho,hw,if_true,hrun];cases r with
   |val v=>
    obtain⟨a1,s2,h3,h4⟩:=ax h2;have key:∀v',VR E1 v v'→wpOpsS P ops Q is (ca.put o.dst v') ({c0 with mode:=um}::cs) w1:=fun v' hv'=>by
     obtain⟨rfl,ha2⟩:=ha1.put hv' h3;exact pW hX hc is rest h a1 u _ e a' u' s' h4 E1 _ w1 _ c0 cs um Q nu iY kj ha2 (hu.mono hx1.keep) fun E' ce mH JR w' q1 q2 q3 q4 q5=>hQ E' ce mH JR w' (oK E' q1) q2 q3 q4 (by rw [lD] at q5;exact q5)
    exact LW
   |call f args=>
    cases nx<;>simp only [NR] at qC<;>first|exact qC.elim|skip
    rename_i f' cs';obtain⟨rfl,cM⟩:=qC;obtain⟨en,s2,h3,h4⟩:=ax h2;have jS:St.Le I s2 s':=M.le _ _ _ _ h4;refine(hc f args s1 en s2 h3 E1 _ w1 cs' nu (iY.first jS) (kj.first jS.next) cM).mono fun e2 w2 ⟨E2,hx2,hen,qM⟩=>?_
    obtain⟨Dt,hF2,LX,wG⟩:=chain h3 jS iY kj hx2;have ha2:=ha1.mono hx2.keep;cases en with
    |ret v=>
     cases e2 with
     |panicked c=>exact hen.elim
     |outgrown=>exact hen.elim
     |returned v'=>
     obtain⟨a1,s3,h5,h6⟩:=ax h4;obtain⟨rfl,ha3⟩:=ha2.put hen h5;exact pW hX hc is rest h a1 u _ e a' u' s' h6 E2 _ w2 _ c0 cs um Q qM Dt hF2 ha3 ((hu.mono hx1.keep).mono hx2.keep) fun E' ce mH JR w' q1 q2 q3 q4 q5=>hQ E' ce mH JR w' (oK E' (LX E' q1)) q2 q3 q4 (by rw [wG,lD] at q5;exact q5)
    |panic v=>
     obtain⟨h5,rfl⟩:=pure_run h4;cases h5;cases e2 with
     |panicked c=>exact hQ E2 (.panic c) ca um w2 (oK E2 hx2) hen ha2 ((hu.mono hx1.keep).mono hx2.keep) (by rw [lD] at qM;exact qM)
     |returned v'=>exact hen.elim
     |outgrown=>exact hen.elim
   |_=>exact(aB h2).elim
theorem LY {X:Hk} (hX:Plain P X w0.w) {self:Self I} (kn:fD P lo w0 self.code) (hc:fC P lo w0 self.call):∀(c:Code) (a:aD) (u:oI),ED P lo w0 (B0 P X lo self c a u) a u (fun Q ca cs w=>c.wpS P Q ca cs w):=by
 have plain:∀(c:Code) (a:aD) (u:oI),ED P lo w0 (self.code none c a>>=U9 u) a u (fun Q ca cs w=>c.wpS P Q ca cs w):=fun c a u=>by
  intro s e a' u' s' hr E g w ca c0 cs um Q hR hA hF ha hu hQ;obtain⟨⟨e1,a1⟩,s1,h1,h2⟩:=ax hr;obtain⟨q1,rfl⟩:=pure_run h2;cases q1;exact wpS_of_wp (wpIn_wide.1 (kn none c a s _ _ _ h1 E g w ca _ none trivial hR hA hF ha fun E' ce mH w' k1 k2 k3 k4=>hQ E' ce mH um w' k1 k2 k3 (hu.mono k1.keep) k4))
 intro c
 induction c with
 |seq x y ihx ihy=>
  intro a u s e a' u' s' hr E g w ca c0 cs um Q hR hA hF ha hu hQ;obtain⟨⟨⟨e1,a1⟩,u1⟩,s1,h1,h2⟩:=ax (m:=B0 P X lo self x a u) hr;have hle:St.Le I s1 s':=M.le _ _ _ _ h2;refine wpS_seq (ihx a u s e1 a1 u1 s1 h1 E g w ca c0 cs um _ hR (hA.first hle) (hF.first hle.next) ha hu fun E1 ce nC Vc w1 k1 k2 k3 k4 k5=>?_);obtain⟨iY,kj,oK,lD⟩:=chain h1 hle hA hF k1;cases e1 with
  |normal=>
   cases ce<;>first|exact k2.elim|skip
   exact ihy a1 u1 s1 e a' u' s' h2 E1 _ w1 nC c0 cs Vc Q k5 iY kj k3 k4 fun E' ce mH JR w' q1 q2 q3 q4 q5=>hQ E' ce mH JR w' (oK E' q1) q2 q3 q4 (by rw [lD] at q5;exact q5)
  |exit id=>
   exact EE
  |ret=>
   exact EE
  |panic v=>
   exact EE
 |region id ops draw=>
  cases draw with
  |true=>exact fun a u=>plain _ a u
  |false=>
   intro a u s e a' u' s' hr E g w ca c0 cs um Q hR hA hF ha hu hQ;refine wpS_region (pW hX hc (List.range ops.size) ops.toList ?_ a u s e a' u' s' hr E g w ca c0 cs um Q hR hA hF ha hu hQ);apply List.ext_getElem ai;intro i h1 h2;simp at h1 h2;simp [h1]
 |skip=>exact fun a u=>plain _ a u
 |cond c x y _ _=>exact fun a u=>plain _ a u
 |block id b _=>exact fun a u=>plain _ a u
 |loop b _=>exact fun a u=>plain _ a u
 |rangeFunc f ps x y _ _=>exact fun a u=>plain _ a u
 |exit id=>exact fun a u=>plain _ a u
 |scope b _=>exact fun a u=>plain _ a u
 |label l=>exact fun a u=>plain _ a u
 |goto l=>exact fun a u=>plain _ a u
 |ret=>exact fun a u=>plain _ a u
 |refuse why=>exact fun a u=>plain _ a u
theorem IA {fn:Func} (h:fn.results.isEmpty=true) (tmps:Array Value) (w:World):(results fn tmps).run P w=.ok (.tuple #[]) w:=by
 have:fn.results=#[]:=kV;unfold results;rw [this];simp
theorem wP {F:Fence} {n:Nat} {f:FuncId} {args:Array Value} {u:FrameMode} {w:World} {R R':Ending→FrameMode→World→Prop} (h:CallsDIn F n P f args u w R) (hr:∀e u w,R e u w→R' e u w):CallsDIn F n P f args u w R':=
 ⟨h.1,fun c cs hc hroom=>let ⟨e,u',w',fr,r,s,x⟩:=h.2 c cs hc hroom;⟨e,u',w',fr,hr _ _ _ r,s,x⟩⟩
theorem uT {f:FuncId} {fn:Func} {c:Code} {args:Array Value} {u:FrameMode} {w:World} {R:Ending→FrameMode→World→Prop}
  (hf:P.funcs[f]?=some fn) (hb:fn.body=some c)
  (h:∀(c₀:Frame) (cs:List Frame),c₀.mode=u→
   c.wpS P (bodyPostS P fn c₀ cs R) {tmps:=args++Array.replicate (fn.ntmps - args.size) undef,defers:=[]} (c₀::cs) w):
  CallsDIn (qW none) (0 - 1) P f args u w R:=by
 refine⟨trivial,fun c₀ cs hu _=>?_⟩
 let b:Frame:={(default:Frame) with fn:=f,kind:=.deferred}
 have Ye:Frame.enter P f args .deferred=
   b.at {tmps:=args++Array.replicate (fn.ntmps - args.size) undef,defers:=[]} [.code c]:=by
  simp [Frame.enter,Frame.at,hf,hb,b]
 obtain⟨e,a',cs',w',hq,tu⟩:=h c₀ cs hu b [] rfl rfl;rw [←Ye] at tu;cases e with
 |normal=>
  obtain⟨hd,u',rfl,v,hr,hR⟩:=hq;exact⟨.returned v,u',w',_,hR,comesIn_wide.2 (show Comes P _ _ (.returned v) from Steps.trans tu (.one step_end)),rfl,rfl,rfl,hd,fn,hf,hr⟩
 |ret=>
  obtain⟨hd,u',rfl,v,hr,hR⟩:=hq;obtain⟨todo,hs⟩:=tu;exact⟨.returned v,u',w',_,hR,comesIn_wide.2 (show Comes P _ _ (.returned v) from hs),rfl,rfl,rfl,hd,fn,hf,hr⟩
 |panic chain=>
  obtain⟨hd,u',rfl,hR⟩:=hq;obtain⟨todo,hs⟩:=tu;exact⟨.panicked chain,u',w',_,hR,comesIn_wide.2 (show Comes P _ _ (.panicked chain) from hs),rfl,rfl,rfl,hd,fn,hf⟩
 |exit id=>exact hq.elim
 |goto l=>exact hq.elim
 |outgrown=>
  obtain⟨u',hR⟩:=hq;exact⟨.outgrown,u',w',b,hR,comesIn_wide.2 (show Comes P _ _ .outgrown from tu.resolve_left (by simp [b])),rfl,rfl,trivial⟩
theorem IB {X:Hk} (hX:Plain P X w0.w) {self:Self I} (kn:fD P lo w0 self.code) (hc:fC P lo w0 self.call) {f:FuncId} {args:Array Value} {u u':oI} {s s':St μ} (hr:(EC P X lo self f args u).run s=some (u',s'))
  {E:Env} {g:Nat→Option Obj} {w:World} {dX:Array Value} {um:FrameMode} (hR:Rel P lo w0 E g w) (hA:dh I s s' g) (hF:eR s s' E) (cM:fQ E args dX) (hu:Iz E u um):
  CallsDIn (qW none) (0 - 1) P f dX um w fun e JR w'=>∃E' v,e=.returned v∧Env.Ext E E' s.next s'.next∧Iz E' u' JR∧Rel P lo w0 E' (merge I s' g) w':=by
 unfold EC at hr;split at hr
 ·rename_i fn hf;split at hr
  ·rename_i c hb;cases hsz:(Nat.blt args.size 4000 && fn.results.isEmpty) with
   |false=>rw [hsz] at hr;exact(aB hr).elim
   |true=>
    rw [hsz,cond_true] at hr;simp only [Bool.and_eq_true,blt_eq,decide_eq_true_eq] at hsz;obtain⟨⟨⟨e1,a1⟩,u1⟩,s1,h1,h2⟩:=ax hr;have hle:St.Le I s1 s':=M.le _ _ _ _ h2;have hend:(e1=.normal∨e1=.ret)∧a1.defers=[]∧u1=u'∧s1=s':=by
     unfold Va at h2;split at h2
     ·rename_i hh;obtain⟨q1,q2⟩:=pure_run h2;cases hh;exact⟨.inl rfl,rfl,q1.symm,q2.symm⟩
     ·rename_i hh;obtain⟨q1,q2⟩:=pure_run h2;cases hh;exact⟨.inr rfl,rfl,q1.symm,q2.symm⟩
     ·exact(aB h2).elim
    obtain⟨qB,QD,rfl,rfl⟩:=hend;refine uT hf hb fun c0 cs hc0=>?_
    have agi:c0={c0 with mode:=um}:=by rw [←hc0]
    rw [agi];refine LY hX kn hc c _ u s e1 a1 u1 s1 h1 E g w _ c0 cs um _ hR hA hF (xN hsz.1 cM) hu fun E' ce mH JR w' k1 k2 k3 k4 k5=>?_
    have hdd:mH.defers=[]:=by
     have:=k3.len;rw [QD] at this;exact List.eq_nil_of_length_eq_zero (by simpa using this.symm)
    rcases qB with rfl|rfl
    ·exact LZ
    ·exact LZ
  ·exact(aB hr).elim
 ·exact(aB hr).elim
theorem qX {X:Hk} (hX:Plain P X w0.w) {self:Self I} (kn:fD P lo w0 self.code) (hc:fC P lo w0 self.call) {fn:Func} {a:aD}:∀(ds:List Deferred) (u:oI) (s:St μ) (r:jz) (s':St μ),(gD P X lo self fn a ds u).run s=some (r,s')→
  ∀(E:Env) (g:Nat→Option Obj) (w:World) (tmps:Array Value) (Vd:List Deferred) (um:FrameMode) (R:Ending→World→Prop),Rel P lo w0 E g w→dh I s s' g→eR s s' E→(∀i,VR E (a.val i) (tmps.getD i undef))→Iz E u um→
   ds.length=Vd.length→(∀(j:Nat) (d d':Deferred),ds[j]?=some d→Vd[j]?=some d'→DR E d d')→
   (∀E' e w',Env.Ext E E' s.next s'.next→EnR E' r e→Rel P lo w0 E' (merge I s' g) w'→R e w')→LeavesInM (qW none) 0 P fn tmps R Vd um w
 |[],u,s,r,s',hr,E,g,w,tmps,Vd,um,R,hR,hA,hF,hv,hu,hlen,_,hQ=>by
  obtain rfl:Vd=[]:=List.eq_nil_of_length_eq_zero (by simpa using hlen.symm);unfold gD acD at hr;split at hr
  ·cases um<;>first|exact(show False from hu).elim|skip
   obtain⟨v,s2,h4,h5⟩:=ax hr;obtain⟨rfl,rfl⟩:=pure_run h5;obtain⟨E2,v',w2,k1,k2,k3,k4⟩:=L3 (P:=P) (lo:=lo) (w0:=w0) (E:=E) (fn:=fn) (ca:={tmps:=tmps,defers:=[]}) hv s v s' h4 E _ w (fun _ _ h=>h) hR hA hF trivial;have:=B1 (P:=P) fn tmps w v' w2 k1;subst this;exact⟨v',k1,hQ E2 _ _ k2 k3 k4⟩
  ·cases um<;>first|exact(show False from hu).elim|skip
   obtain⟨v',rfl,hv'⟩:=hu;obtain⟨rfl,rfl⟩:=pure_run hr;exact hQ E _ w (.refl _ _) ⟨v',rfl,hv'⟩ xO
  ·exact(aB hr).elim
 |d::ds,u,s,r,s',hr,E,g,w,tmps,[],um,R,hR,hA,hF,hv,hu,hlen,PJ,hQ=>by simp at hlen
 |d::ds,u,s,r,s',hr,E,g,w,tmps,d'::Vd,um,R,hR,hA,hF,hv,hu,hlen,PJ,hQ=>by
  rcases PJ 0 d d' rfl rfl with⟨f,cap,cap',ht,FO,bL,cM⟩|⟨k,b,q,ht,FO,hkb⟩
  ·unfold gD at hr;rw [ht] at hr;simp only at hr;cases hx:X.X f with
   |false=>rw [hx] at hr;exact(aB hr).elim
   |true=>
    rw [hx,cond_true] at hr;obtain⟨u1,s1,h1,h2⟩:=ax hr;have hle:St.Le I s1 s':=M.le _ _ _ _ h2;obtain⟨Yf,g1,g2,g3⟩:=hX.x f hx;have g3':Yf.body≠none:=fun e=>by rw [e] at g3;cases g3
    have Qu : ¬ Yf.name = "runtime.NumGoroutine" := by simpa using g2
    have hne:um≠ .run:=fun e=>by subst e;cases u<;>exact(show False from hu).elim
    refine⟨hne,.inr ⟨iA,.func f,cap',f,d'.args++cap',FO, ?_,fun _ _=>trivial, ?_⟩⟩
    ·rw [FO];simp [invoke,callFunc,g1,Qu,g3']
    ·refine wP (IB hX kn hc h1 hR (hA.first hle) (hF.first hle.next) (fQ.append cM bL) hu) fun e Vc w1 ⟨E1,v,he,k1,k2,k3⟩=>?_
     subst he;obtain⟨iY,kj,oK,lD⟩:=chain h1 hle hA hF k1;exact qX hX kn hc ds u1.settle s1 r s' h2 E1 _ w1 tmps Vd _ R k3 iY kj (fun i=>(hv i).mono k1.keep) k2.settle (by simpa using hlen) (fun j x y hx hy=>(PJ (j+1) x y (by simpa using hx) (by simpa using hy)).mono k1.keep)
      fun E' e w' q1 q2 q3=>hQ E' e w' (oK E' q1) q2 (by rw [lD] at q3;exact q3)
  ·unfold gD at hr;rw [ht] at hr;simp only at hr;obtain⟨u1,s1,h1,h2⟩:=ax hr;have hle:St.Le I s1 s':=M.le _ _ _ _ h2;have hne:um≠ .run:=fun e=>by subst e;cases u<;>exact(show False from hu).elim
   unfold Vb at h1;obtain⟨ob,s2,h3,h4⟩:=ax h1;have hob:ob=.deferred (some []):=by
    cases ob<;>first|exact(aB h4).elim|skip
    rename_i x;cases x with
    |none=>exact(aB h4).elim
    |some l=>cases l with
     |nil=>rfl
     |cons y l=>exact(aB h4).elim
   subst hob;simp only at h4;obtain⟨e1,e2,e3,e4,e5⟩:=ow h3;obtain⟨w1',⟨o0,w2'⟩,w3',w4',w5',w6'⟩:=zi h4;have l1:=(rd (I:=I) k).le _ _ _ h3;have l2:=(wr (I:=I) lo k (some (.deferred none))).le _ _ _ h4;have hm:merge I s2 g=g:=eH ((hA.first hle).first l2) (fun k=>by rw [e4]) (fun k=>by rw [e3]);have iY:dh I s2 s1 g:=by have:=(hA.first hle).second l1 l2;rwa [hm] at this
   have hg:g k=some (.deferred (some [])):=by rw [(hA.first hle) k (by rw [l2.T k e5,Bool.true_or]),e1]
   obtain⟨b',r',co,q1,q2,q3⟩:=hR.tie _ _ hg;rw [hkb] at q1;cases q1;cases q3 with
   |collected=>
    have nu:Rel P lo w0 E (merge I s1 g) (w.putObj b (.deferred none)):=by
     rw [gI iY w5' w6'];exact hR.write hg hkb w1' (nR q2) .shut
    have x1:Env.Ext E E s.next s1.next:=⟨fun _ _ h=>h,fun _ h=>.inl h⟩;obtain⟨Dt,hF2,LX,wG⟩:=chain h1 hle hA hF x1;exact⟨hne,.inl ⟨b,_,FO,run_takeDeferred q2,qX hX kn hc ds u s1 r s' h2 E _ _ tmps Vd um R nu Dt hF2 hv hu (by simpa using hlen) (fun j x y hx hy=>PJ (j+1) x y (by simpa using hx) (by simpa using hy))
     fun E' e w' q1 q2 q3=>hQ E' e w' (LX E' q1) q2 (by rw [wG] at q3;exact q3)⟩⟩
theorem L4 {X:Hk} (H:Plain P X w0.w) {self:Self I} (kn:fD P lo w0 self.code) (hc:fC P lo w0 self.call):fC P lo w0 (nB P X lo self):=by
 intro f args s r s' hr E g w dX hR hA hF cM;unfold nB at hr;split at hr
 ·rename_i v hl;obtain⟨rfl,rfl⟩:=pure_run hr;obtain⟨l1,l2,l3⟩:=H.l f _ v hl;have he:=cM.eu l1;have:=l3 w hR.below;rw [show args.toList.toArray=args by simp,←he] at this;refine this.mono fun e w' ⟨h1,h2⟩=>⟨E,.refl _ _, ?_, ?_⟩
  ·subst h1;exact bT E 3 v l2
  ·rw [eH hA (fun _=>rfl) (fun _=>rfl)];exact hR.Yg h2
 ·split at hr
  ·rename_i fn hf;unfold LV at hr;split at hr
   ·rename_i c hb;cases hsz:Nat.blt args.size 4000 with
    |false=>simp only [hsz] at hr;exact(aB hr).elim
    |true=>
     simp only [hsz,cond_true] at hr;rw [blt_eq,decide_eq_true_eq] at hsz;obtain⟨⟨x,a1⟩,s1,h1,h2⟩:=ax hr;have hle:St.Le I s1 s':=M.le _ _ _ _ h2;refine IC (callsIn_of_wp_marks hf hb trivial ?_);refine kn none c _ s x a1 s1 h1 E g w _ _ none trivial hR (hA.first hle) (hF.first hle.next) (xN hsz cM) fun E1 ce nC w1 hx1 qB ha1 nu=>?_
     obtain⟨iY,kj,oK,lD⟩:=chain h1 hle hA hF hx1;have leave:∀u um,Iz E1 u um→(gD P X lo self fn a1 a1.defers u).run s1=some (r,s')→LeavesInM (qW none) 0 P fn nC.tmps (fun e w'=>∃E',Env.Ext E E' s.next s'.next∧EnR E' r e∧Rel P lo w0 E' (merge I s' g) w') nC.defers um w1:=fun u um hu h3=>
      qX H kn hc a1.defers u s1 r s' h3 E1 _ w1 nC.tmps nC.defers um _ nu iY kj ha1.val hu ha1.len ha1.defers fun E' e w' q1 q2 q3=>⟨E',oK E' q1,q2,by rw [lD] at q3;exact q3⟩
     cases x with
     |normal=>
      exact L5
     |ret=>
      exact L5
     |exit j=>exact(aB h2).elim
     |panic v=>
      cases ce<;>simp only [zT] at qB<;>first|exact qB.elim|skip
      exact leave (.panic v false) (.panicking _) qB h2
   ·exact(aB hr).elim
  ·exact(aB hr).elim
theorem mI (hm:P.follows .mixedOrders=true) {X:Hk} (H:Plain P X w0.w) {K:Qh I} (hK:Yh P lo w0 K):∀n,fD P lo w0 (xM (I:=I) P X lo K n).code∧fC P lo w0 (xM (I:=I) P X lo K n).call
 |0=>⟨fun ρ c a s e a' s' hr=>(aB hr).elim,fun f args s r s' hr=>(aB hr).elim⟩
 |n+1=>⟨QE hm H (mI hm H hK n).1 (mI hm H hK n).2,by
   have hb:=L4 H (mI hm H hK n).1 (mI hm H hK n).2;intro f args s r s' hr E g w dX hR hA hF cM;change (qU P X lo K (xM P X lo K n) f args).run s=_ at hr;unfold qU at hr;split at hr
   ·exact hb f args s r s' hr E g w dX hR hA hF cM
   ·rename_i h;split at hr
    ·rename_i m hm;exact hK h rfl f args m hm s r s' hr E g w dX hR hA hF cM
    ·exact hb f args s r s' hr E g w dX hR hA hF cM⟩
theorem sw (hm:P.follows .mixedOrders=true) {X:Hk} (w:World) (H:Plain P X w) {n:Nat} {f:FuncId} {args:Array Value} {p:Value→Bool} (h:Gp P X n f args p=true) (hg:args.toList.all (eu 3)=true):
  Calls P f args w fun e w'=>∃(v v':Value) (E:Env),p v=true∧e=.returned v'∧VR E v v'∧Below w.heap.size w w':=by
 unfold Gp at h;split at h
 ·rename_i v s' hr;have hR:Rel P ⟨0,0⟩ ⟨w,fun _=>none⟩ (fun _=>none) (fun _=>none) w:=⟨Below.refl _ _,(fun k o h=>by cases h),(fun k k' o o' b r r' h=>by cases h),(fun k b r _ h=>by cases h),(fun k h=>absurd h (Nat.not_lt_zero k)),(fun k x h=>by cases h)⟩;have acG:fQ (fun _=>none) args args:=⟨rfl,fun a c j ha hc=>by rw [ha] at hc;cases hc;exact bT _ 3 a (gU hg ha)⟩;have:=(mI (I:=Ux) (lo:=⟨0,0⟩) (w0:=⟨w,fun _=>none⟩) hm H (K:=none) (fun h e=>by cases e) n).2 f args (st0 0) (.ret v) s' hr (fun _=>none) (fun _=>none) w args hR (fun k hk=>rfl) (fun k _ _=>rfl) acG;refine this.mono fun e w' ⟨E,_,he,tJ⟩=>?_
  cases e with
  |returned v'=>exact⟨v,v',E,h,rfl,he,tJ.below⟩
  |panicked c=>exact he.elim
  |outgrown=>exact he.elim
 ·cases h
end
end Go.Am