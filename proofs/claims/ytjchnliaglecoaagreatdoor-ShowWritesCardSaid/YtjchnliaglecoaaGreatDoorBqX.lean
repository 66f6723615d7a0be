/- A part of the proof. Conditions: none. -/
import Derived.Lib.UnsafeStr
import Derived.Test.YtjchnliaglecoaaGreatDoorZz
import Derived.Test.YtjchnliaglecoaaGreatDoorAmQX
import Derived.Lib.Builder
import Derived.Lib.AppendStr
import Derived.Laws.Externs
import Derived.Deep.QuietTactic
import Derived.BigQuiet
import Derived.Test.YtjchnliaglecoaaGreatDoorBaseB
import Derived.Test.YtjchnliaglecoaaGreatDoorProg
set_option linter.unusedVariables false
set_option linter.unusedSimpArgs false
set_option maxRecDepth 100000
set_option maxHeartbeats 8000000
namespace Go.Am
open Go Go.RowKit
variable {μ:Type} {I:ir μ} {P:Program} {lo:eK} {w0:Bs}
theorem DV {fits:TypeId→Bool}:∀(d:Nat) (e:TypeId) (c c' off n:Nat),c≤c'→rowAt P fits d e c off n=true→rowAt P fits d e c' off n=true
 |0,_,_,_,_,_,_,h=>by simp [rowAt] at h
 |d+1,e,c,c',off,n,hc,h=>by
  unfold rowAt at h ⊢;simp only at h ⊢;split
  ·rename_i h0;rw [if_pos h0] at h;exact h
  ·rename_i h0;rw [if_neg h0] at h;rw [Bool.or_eq_true] at h ⊢;rcases h with h|h
   ·left;simp only [Bool.and_eq_true,decide_eq_true_eq] at h ⊢;exact⟨⟨h.1.1,by omega⟩,h.2⟩
   ·right;rw [Bool.and_eq_true,decide_eq_true_eq] at h ⊢;exact⟨by omega,h.2⟩
theorem mF:∀(d:Nat) (e:TypeId) (c c' off:Nat) (u:TypeId) (n:Nat),c≤c'→liesAt P d e c off u n=true→liesAt P d e c' off u n=true
 |0,_,_,_,_,_,_,_,h=>by simp [liesAt] at h
 |d+1,e,c,c',off,u,n,hc,h=>by
  unfold liesAt at h ⊢;rw [Bool.or_eq_true] at h ⊢;rcases h with h|h
  ·exact .inl (DV _ _ _ _ _ _ hc h)
  ·right;split at h
   ·exact mF d e c c' off _ _ hc h
   ·cases h
theorem Rel.same {E:Env} {g:Nat→Option Obj} {w w':World} (h:Rel P lo w0 E g w) {b:Nat} {co:Obj} (hb:w.heap[b]?=some co) (hw:ek b co w w'):Rel P lo w0 E g w':=by
 have he:∀i,w'.heap[i]?=w.heap[i]?:=fun i=>by
  by_cases e:i=b
  ·subst e;rw [hw.at_,hb]
  ·exact hw.other i e
 refine⟨h.below.trans ⟨hw.os,hw.tape,hw.output,Nat.le_of_eq hw.size.symm,fun i _=>he i⟩,fun k o hk=>?_,h.inj,h.own,h.old,h.kept⟩;obtain⟨b',r',S5,h1,h2,h3⟩:=h.tie k o hk;exact⟨b',r',S5,h1,by rw [he];exact h2,h3⟩
theorem Rel.ajG {E:Env} {g:Nat→Option Obj} {w w':World} (h:Rel P lo w0 E g w) {k0 b r:Nat} {o0:Obj} {co:Obj} (hg:g k0=some o0) (hE:E k0=some (b,r)) (JO:lo.lo≤k0)
  (hw:ek b co w w'):Rel P lo w0 E (fun k=>if k=k0 then none else g k) w':=by
 have hk:=h.kill k0;refine⟨?_, ?_,hk.inj,hk.own,hk.old,hk.kept⟩
 ·exact ME
 ·intro k o' hk';by_cases e:k=k0
  ·subst e;simp at hk'
  ·have hk2:g k=some o':=by simpa [e] using hk'
   obtain⟨b',r',S5,h1,h2,h3⟩:=h.tie k o' hk2;refine⟨b',r',S5,h1, ?_,h3⟩;rw [hw.other b' ?_]
   ·exact h2
   ·intro eb;subst eb;exact e (h.inj _ _ _ _ _ _ _ hk2 hg h1 hE)
structure Bd where
 cc:FuncId
 st:FuncId
 u8:TypeId
 ok:TypeId→Nat→Nat→Bool
structure Mj (P:Program) (B:Bd):Prop where
 mono:∀t n n' o,n≤n'→B.ok t n o=true→B.ok t n' o=true
 two:∀t n o,B.ok t n o=true→o+1<n
 cc0:∀w b o t cs,B.ok t cs.size o=true→w.heap[b]?=some (.cells cs t (0,0))→cs[o]?=some (.pointer none)→
  Calls P B.cc #[.pointer (some ⟨b,o,none⟩)] w fun e w'=>e=.returned (.tuple #[])∧ek b (.cells (cs.setIfInBounds o (.pointer (some ⟨b,o,none⟩))) t (0,0)) w w'
 cc1:∀w b o t cs,B.ok t cs.size o=true→w.heap[b]?=some (.cells cs t (0,0))→cs[o]?=some (.pointer (some ⟨b,o,none⟩))→
  Calls P B.cc #[.pointer (some ⟨b,o,none⟩)] w fun e w'=>e=.returned (.tuple #[])∧ek b (.cells cs t (0,0)) w w'
 st0:∀w b o t cs c,B.ok t cs.size o=true→w.heap[b]?=some (.cells cs t (0,0))→cs[o+1]?=some (.slice none 0 c)→
  Calls P B.st #[.pointer (some ⟨b,o,none⟩)] w fun e w'=>e=.returned (.string ⟨#[]⟩)∧ek b (.cells cs t (0,0)) w w'
 st1:∀w b o t cs g c ds (l:List UInt8),B.ok t cs.size o=true→w.heap[b]?=some (.cells cs t (0,0))→cs[o+1]?=some (.slice (some ⟨g,0,none⟩) l.length c)→c≠0→l≠[]→l.length≤1000000→
  w.heap[g]?=some (.cells ds B.u8 (0,0))→l.length≤ds.size→(∀(j:Nat) (x:UInt8),l[j]?=some x→ds[j]?=some (Value.int .u8 x.toNat))→
  Calls P B.st #[.pointer (some ⟨b,o,none⟩)] w fun e w'=>e=.returned (.string ⟨l.toArray⟩)∧∃co,ek g co w w'
def ccA (lo:eK) (B:Bd):List Value→M I fS
 |[.pointer (some ⟨k,o,none⟩)]=>rd k>>=fun ob=>match ob with
  | .cells zas t (0,0)=>bif B.ok t zas.size o then match zas[o]? with
    |some (.pointer none)=>wr lo k (some (.cells (zas.setIfInBounds o (.pointer (some ⟨k,o,none⟩))) t (0,0)))>>=fun _=>pure (.ret (.tuple #[]))
    |some (.pointer (some ⟨k',o',none⟩))=>bif Nat.beq k' k && Nat.beq o' o then pure (.ret (.tuple #[])) else fail
    |_=>fail
   else fail
  |_=>fail
 |_=>fail
def zG:Value→Option UInt8
 | .int .u8 n=>bif decide (n=(n.toNat.toUInt8.toNat:Int)) then some n.toNat.toUInt8 else none
 |_=>none
def pX:Nat→List Value→Option (List UInt8)
 |0,_=>some []
 |n+1,v::l=>match zG v,pX n l with
  |some x,some r=>some (x::r)
  |_,_=>none
 |_+1,[]=>none
theorem zH {v:Value} {x:UInt8} (h:zG v=some x):v=.int .u8 x.toNat:=by
 unfold zG at h;split at h
 ·rename_i n;cases hb:decide (n=(n.toNat.toUInt8.toNat:Int)) with
  |false=>rw [hb] at h;cases h
  |true=>
   rw [hb] at h;cases h;rw [decide_eq_true_eq] at hb;rw [←hb]
 ·cases h
theorem nU:∀(n:Nat) (vs:List Value) (l:List UInt8),pX n vs=some l→l.length=n∧n≤vs.length∧∀(j:Nat) (x:UInt8),l[j]?=some x→vs[j]?=some (Value.int .u8 x.toNat)
 |0,vs,l,h=>by cases h;exact⟨rfl,Nat.zero_le _,fun j x h=>by simp at h⟩
 |n+1,[],l,h=>by cases h
 |n+1,v::vs,l,h=>by
  simp only [pX] at h;split at h
  ·rename_i x r hx hr;cases h;obtain⟨h1,h2,h3⟩:=nU n vs r hr;refine⟨by simp [h1],by simp;omega,fun j y hj=>?_⟩;rcases j with _|j
   ·simp at hj;subst hj;simp [zH hx]
   ·simp at hj;simpa using h3 j y hj
  ·cases h
def stB (lo:eK) (B:Bd) (j n c:Nat):M I fS:=rd j>>=fun ob=>match ob with
 | .cells bs t (0,0)=>bif Nat.beq t B.u8 && !(Nat.beq n 0) && !(Nat.beq c 0) && Nat.ble n 1000000 then match pX n bs.toList with
   |some l=>wr lo j none>>=fun _=>pure (.ret (.string ⟨l.toArray⟩))
   |none=>fail
  else fail
 |_=>fail
def stA (lo:eK) (B:Bd):List Value→M I fS
 |[.pointer (some ⟨k,o,none⟩)]=>rd k>>=fun ob=>match ob with
  | .cells zas t (0,0)=>bif B.ok t zas.size o then match zas[o+1]? with
    |some (.slice none 0 c)=>pure (.ret (.string ⟨#[]⟩))
    |some (.slice (some ⟨j,0,none⟩) n c)=>stB lo B j n c
    |some (.slice (some ⟨j,0,some 0⟩) n c)=>stB lo B j n c
    |_=>fail
   else fail
  |_=>fail
 |_=>fail
def DW (lo:eK) (B:Bd):Gp I:=some fun f args=>bif Nat.beq f B.cc then some (ccA lo B args.toList) else bif Nat.beq f B.st then some (stA lo B args.toList) else none
theorem qY {E:Env} {g:Nat→Option Obj} {w:World} (h:Rel P lo w0 E g w) {k:Nat} {zas:Array Value} {t:TypeId} (hg:g k=some (.cells zas t (0,0))):
  ∃b r cs,E k=some (b,r)∧w.heap[b]?=some (.cells cs t (0,0))∧zas.size+r*P.cellsOf t=cs.size∧∀a c:Value,∀j:Nat,zas[j]?=some a→cs[j]?=some c→VR E a c:=by
 obtain⟨b,r,co,h1,h2,h3⟩:=h.tie _ _ hg;cases h3 with
 |cells q1 q2=>exact⟨b,r,_,h1,h2,q1,q2⟩
theorem gR {zas cs:Array Value} {n:Nat} (h:zas.size+n=cs.size) {j:Nat} {a:Value} (ha:zas[j]?=some a):∃c,cs[j]?=some c:=by
 have:=(Array.getElem?_eq_some_iff.1 ha).1;exact⟨_,Array.getElem?_eq_getElem aa⟩
theorem fU.one {E:Env} {k o:Nat} {args cj:Array Value} (h:fU E args cj) (he:args.toList=[.pointer (some ⟨k,o,none⟩)]):∃b r,E k=some (b,r)∧cj=#[.pointer (some ⟨b,o,none⟩)]:=by
 have hl:=h.lst;rw [he] at hl;obtain⟨l1,l2⟩:=hl;obtain⟨c,hc⟩:∃c,cj.toList=[c]:=by
  rcases hq:cj.toList with _|⟨c,_|⟨d,l⟩⟩
  ·rw [hq] at l1;simp at l1
  ·exact⟨c,rfl⟩
  ·rw [hq] at l1;simp at l1
 have hv:=l2 _ c 0 rfl (by rw [hc];rfl);cases hv with
 | @ptr k o b r hk=>exact⟨b,r,hk,by rw [←Array.toArray_toList (xs:=cj),hc]⟩
theorem agp {B:Bd} (hB:Mj P B) {args:Array Value} {s s':St μ} {r:fS} (hr:(ccA lo B args.toList:M I fS).run s=some (r,s')) {E:Env} {g:Nat→Option Obj} {w:World} {cj:Array Value}
  (hR:Rel P lo w0 E g w) (hA:dx I s s' g) (cG:fU E args cj):Calls P B.cc cj w fun e w'=>∃E',Env.Ext E E' s.next s'.next∧Rh E' r e∧Rel P lo w0 E' (merge I s' g) w':=by
 unfold ccA at hr;split at hr
 ·rename_i k o heq;obtain⟨ob,s1,h1,h2⟩:=ax hr;obtain⟨b,rr,hkb,rfl⟩:=cG.one heq;have hle:St.Le I s1 s':=by
   have:=M.le _ _ _ _ h2;exact this
  split at h2
  ·rename_i zas t;obtain⟨e1,e2,e3,e4,e5⟩:=jA h1;cases qU:B.ok t zas.size o with
   |false=>rw [qU] at h2;exact(au h2).elim
   |true=>
    rw [qU,cond_true] at h2;have hg:g k=some (.cells zas t (0,0)):=by rw [(hA.first hle) k (by rw [e5,Bool.true_or]),e1]
    obtain⟨b',r',cs,t1,t2,t3,t4⟩:=qY hR hg;rw [hkb] at t1;cases t1;have Ho:=hB.mono _ _ cs.size _ aa qU;split at h2
    ·rename_i hp;obtain⟨c,hc⟩:=gR t3 hp;have hv:=t4 _ _ _ hp hc;cases hv;obtain⟨u,s2,h3,h4⟩:=ax h2;obtain⟨rfl,rfl⟩:=pure_run h4;obtain⟨w1',⟨o0,w2'⟩,w3',w4',w5',w6'⟩:=qL h3;refine(hB.cc0 w b o t cs Ho t2 hc).mono fun e w' ⟨he,hT⟩=>⟨E,⟨fun _ _ h=>h,fun _ h=>.inl h⟩, ?_, ?_⟩
     ·subst he;exact .tuple rfl fun a c j ha=>by simp at ha
     ·have l1:=(rd (I:=I) k).le _ _ _ h1;have l2:=(wr (I:=I) lo k (some (.cells (zas.setIfInBounds o (.pointer (some ⟨k,o,none⟩))) t (0,0)))).le _ _ _ h3;have hm:merge I s1 g=g:=dA (hA.first l2) (fun k=>by rw [e4]) (fun k=>by rw [e3]);have gY:dx I s1 s' g:=Bj;rw [eO gY w5' w6'];refine hR.write hg hkb w1' hT (.cells (by simpa using t3) fun a c j ha hc=>?_);rw [Array.getElem?_setIfInBounds] at ha hc;by_cases ej:o=j
      ·subst ej;rw [if_pos rfl] at ha hc;split at ha<;>split at hc<;>first|(cases ha;cases hc;exact .ptr hkb)|(cases ha;done)|(cases hc;done)
      ·rw [if_neg ej] at ha hc;exact t4 a c j ha hc
    ·rename_i k' o' hp;cases hq:(Nat.beq k' k && Nat.beq o' o) with
     |false=>rw [hq] at h2;exact(au h2).elim
     |true=>
      rw [hq,cond_true] at h2;obtain⟨rfl,rfl⟩:=pure_run h2;rw [Bool.and_eq_true] at hq;obtain rfl:=Nat.eq_of_beq_eq_true hq.1;obtain rfl:=Nat.eq_of_beq_eq_true hq.2;obtain⟨c,hc⟩:=gR t3 hp;have hv:=t4 _ _ _ hp hc;cases hv with
      |ptr hk2=>
       rw [hkb] at hk2;cases hk2;refine(hB.cc1 w b _ t cs Ho t2 hc).mono fun e w' ⟨he,hT⟩=>⟨E,⟨fun _ _ h=>h,fun _ h=>.inl h⟩, ?_, ?_⟩
       ·subst he;exact .tuple rfl fun a c j ha=>by simp at ha
       ·rw [dA hA (fun k=>by rw [e4]) (fun k=>by rw [e3])];exact hR.same t2 hT
    ·exact(au h2).elim
  ·exact(au h2).elim
 ·exact(au hr).elim
theorem MF {B:Bd} {j n c:Nat} {s s':St μ} {r:fS} (hr:(stB lo B j n c:M I fS).run s=some (r,s')) {E:Env} {g:Nat→Option Obj} {w:World} {f:FuncId} {cj:Array Value} {gb rj:Nat}
  (hR:Rel P lo w0 E g w) (hA:dx I s s' g) (hj:E j=some (gb,rj))
  (H:∀ds (l:List UInt8),l.length=n→c≠0→l≠[]→l.length≤1000000→w.heap[gb]?=some (.cells ds B.u8 (0,0))→l.length≤ds.size→(∀(j:Nat) (x:UInt8),l[j]?=some x→ds[j]?=some (Value.int .u8 x.toNat))→
   Calls P f cj w fun e w'=>e=.returned (.string ⟨l.toArray⟩)∧∃co,ek gb co w w'):
  Calls P f cj w fun e w'=>∃E',Env.Ext E E' s.next s'.next∧Rh E' r e∧Rel P lo w0 E' (merge I s' g) w':=by
 unfold stB at hr;obtain⟨ob,s1,h1,h2⟩:=ax hr;have hle:St.Le I s1 s':=M.le _ _ _ _ h2;split at h2
 ·rename_i bs t;obtain⟨e1,e2,e3,e4,e5⟩:=jA h1;cases hq:(Nat.beq t B.u8 && !(Nat.beq n 0) && !(Nat.beq c 0) && Nat.ble n 1000000) with
  |false=>rw [hq] at h2;exact(au h2).elim
  |true=>
   rw [hq,cond_true] at h2;simp only [Bool.and_eq_true,Bool.not_eq_true'] at hq;obtain⟨⟨⟨q1,q2⟩,q3⟩,q4⟩:=hq;obtain rfl:=Nat.eq_of_beq_eq_true q1;have q2':n≠0:=fun e=>by subst e;simp [Nat.beq] at q2
   have q3':c≠0:=fun e=>by subst e;simp [Nat.beq] at q3
   have q4':=Nat.le_of_ble_eq_true q4;split at h2
   ·rename_i l hl;obtain⟨u,s2,h3,h4⟩:=ax h2;obtain⟨rfl,rfl⟩:=pure_run h4;obtain⟨b1,b2,b3⟩:=nU _ _ _ hl;have hg:g j=some (.cells bs B.u8 (0,0)):=by rw [(hA.first hle) j (by rw [e5,Bool.true_or]),e1]
    obtain⟨b',r',cs,t1,t2,t3,t4⟩:=qY hR hg;rw [hj] at t1;cases t1;obtain⟨w1',⟨o0,w2'⟩,w3',w4',w5',w6'⟩:=qL h3;have hbl:n≤bs.size:=by simpa using b2
    refine(H cs l b1 q3' (by intro e;subst e;simp at b1;omega) aa t2 aa fun i x hx=>?_).mono fun e w' ⟨he,co,hT⟩=>⟨E,⟨fun _ _ h=>h,fun _ h=>.inl h⟩, ?_, ?_⟩
    ·have h5:=b3 i x hx;have h6:bs[i]?=some (.int .u8 x.toNat):=by rw [←Array.getElem?_toList];exact h5
     obtain⟨cv,hcv⟩:=gR t3 h6;have:=t4 _ _ _ h6 hcv;cases this;exact hcv
    ·subst he;exact .string _
    ·have l1:=(rd (I:=I) j).le _ _ _ h1;have l2:=(wr (I:=I) lo j none).le _ _ _ h3;have hm:merge I s1 g=g:=dA (hA.first l2) (fun k=>by rw [e4]) (fun k=>by rw [e3]);have gY:dx I s1 s' g:=Bj;rw [eO gY w5' w6'];exact hR.ajG hg hj w1' hT
   ·exact(au h2).elim
 ·exact(au h2).elim
theorem agq {B:Bd} (hB:Mj P B) {args:Array Value} {s s':St μ} {r:fS} (hr:(stA lo B args.toList:M I fS).run s=some (r,s')) {E:Env} {g:Nat→Option Obj} {w:World} {cj:Array Value}
  (hR:Rel P lo w0 E g w) (hA:dx I s s' g) (cG:fU E args cj):Calls P B.st cj w fun e w'=>∃E',Env.Ext E E' s.next s'.next∧Rh E' r e∧Rel P lo w0 E' (merge I s' g) w':=by
 unfold stA at hr;split at hr
 ·rename_i k o heq;obtain⟨ob,s1,h1,h2⟩:=ax hr;obtain⟨b,rr,hkb,rfl⟩:=cG.one heq;have hle:St.Le I s1 s':=M.le _ _ _ _ h2;split at h2
  ·rename_i zas t;obtain⟨e1,e2,e3,e4,e5⟩:=jA h1;cases qU:B.ok t zas.size o with
   |false=>rw [qU] at h2;exact(au h2).elim
   |true=>
    rw [qU,cond_true] at h2;have hg:g k=some (.cells zas t (0,0)):=by rw [(hA.first hle) k (by rw [e5,Bool.true_or]),e1]
    obtain⟨b',r',cs,t1,t2,t3,t4⟩:=qY hR hg;rw [hkb] at t1;cases t1;have Ho:=hB.mono _ _ cs.size _ aa qU;have l1:=(rd (I:=I) k).le _ _ _ h1;have hm:merge I s1 g=g:=dA (hA.first hle) (fun k=>by rw [e4]) (fun k=>by rw [e3]);have gY:dx I s1 s' g:=by have:=hA.second l1 hle;rwa [hm] at this
    split at h2
    ·rename_i c hp;obtain⟨cv,hc⟩:=gR t3 hp;have hv:=t4 _ _ _ hp hc;cases hv;obtain⟨rfl,rfl⟩:=pure_run h2;refine(hB.st0 w b o t cs _ Ho t2 hc).mono fun e w' ⟨he,hT⟩=>⟨E,⟨fun _ _ h=>h,fun _ h=>.inl h⟩, ?_, ?_⟩
     ·subst he;exact .string _
     ·rw [hm];exact hR.same t2 hT
    ·rename_i j n c hp;obtain⟨cv,hc⟩:=gR t3 hp;have hv:=t4 _ _ _ hp hc;cases hv with
     | @slice _ _ gb rj _ _ hj=>
      have:=MF (f:=B.st) (cj:=#[.pointer (some ⟨b,o,none⟩)]) h2 hR gY hj fun ds l a1 a2 a3 a4 a5 a6 a7=>hB.st1 w b o t cs gb c ds l Ho t2 (by rw [a1];exact hc) a2 a3 a4 a5 a6 a7
      rw [e2] at this;exact this
    ·rename_i j n c hp;obtain⟨cv,hc⟩:=gR t3 hp;have hv:=t4 _ _ _ hp hc;cases hv with
     | @wide _ _ gb rj _ _ hj=>
      have:=MF (f:=B.st) (cj:=#[.pointer (some ⟨b,o,none⟩)]) h2 hR gY hj fun ds l a1 a2 a3 a4 a5 a6 a7=>hB.st1 w b o t cs gb (c+rj) ds l Ho t2 (by rw [a1];exact hc) aa a3 a4 a5 a6 a7
      rw [e2] at this;exact this
    ·exact(au h2).elim
  ·exact(au h2).elim
 ·exact(au hr).elim
theorem agr {B:Bd} (hB:Mj P B):J2 P lo w0 (DW lo B:Gp I):=by
 intro h hh f args m hm s r s' hr E g w cj hR hA hF cG;cases hh;simp only at hm;cases h1:Nat.beq f B.cc with
 |true=>
  rw [h1,cond_true] at hm;cases hm;obtain rfl:=Nat.eq_of_beq_eq_true h1;exact agp hB hr hR hA cG
 |false=>
  rw [h1,cond_false] at hm;cases h2:Nat.beq f B.st with
  |true=>
   rw [h2,cond_true] at hm;cases hm;obtain rfl:=Nat.eq_of_beq_eq_true h2;exact agq hB hr hR hA cG
  |false=>rw [h2,cond_false] at hm;cases hm
noncomputable def Ke (P:Program) (X:Hk) (B:Bd) (n:Nat) (f:FuncId) (args:Array Value) (p:Value→Bool):Bool:=match ((uf (I:=Fh) P X ⟨0,0⟩ (DW ⟨0,0⟩ B) n).call f args).run (st0 0) with
 |some (.ret v,_)=>p v
 |_=>false
theorem AY (hm:P.follows .mixedOrders=true) {X:Hk} (w:World) (H:Plain P X w) {B:Bd} (hB:Mj P B) {n:Nat} {f:FuncId} {args:Array Value} {p:Value→Bool} (h:Ke P X B n f args p=true) (hg:args.toList.all (fD 3)=true):
  Calls P f args w fun e w'=>∃(v v':Value) (E:Env),p v=true∧e=.returned v'∧VR E v v'∧Below w.heap.size w w':=by
 unfold Ke at h;split at h
 ·rename_i v s' hr;have hR:Rel P ⟨0,0⟩ ⟨w,fun _=>none⟩ (fun _=>none) (fun _=>none) w:=⟨Below.refl _ _,(fun k o h=>by cases h),(fun k k' o o' b r r' h=>by cases h),(fun k b r _ h=>by cases h),(fun k h=>absurd h (Nat.not_lt_zero k)),(fun k x h=>by cases h)⟩;have J3:fU (fun _=>none) args args:=⟨rfl,fun a c j ha hc=>by rw [ha] at hc;cases hc;exact cF _ 3 a (gp hg ha)⟩;have:=(jL (I:=Fh) (lo:=⟨0,0⟩) (w0:=⟨w,fun _=>none⟩) hm H (K:=DW ⟨0,0⟩ B) (agr hB) n).2 f args (st0 0) (.ret v) s' hr (fun _=>none) (fun _=>none) w args hR (fun k hk=>rfl) (fun k _ _=>rfl) J3;exact J4
 ·cases h
end Go.Am
/- A part of the proof. Conditions: none. -/
set_option maxRecDepth 100000
set_option maxHeartbeats 8000000
namespace Go.Proofs.YtjchnliaglecoaaGreatDoor
open Go Go.RowKit Go.Am
theorem Tryz.sizeBuilder:(Tryz.prog.info? 77).map (·.size)=some 2:=by kernel_rfl
theorem jE {w:World} {b:Nat} {cs:Array Value} {t:TypeId} {fr:Nat × Nat} (h:w.heap[b]?=some (.cells cs t fr)):w.shape? b=some (t,cs.size):=by
 simp [World.shape?,h]
theorem dD {w:World} {b o:Nat} {cs:Array Value} {t:TypeId} {v:Value} (h:w.heap[b]?=some (.cells cs t (0,0))):ek b (.cells (cs.setIfInBounds o v) t (0,0)) w (w.setCell ⟨b,o,none⟩ v):=by
 refine⟨rfl,rfl,rfl,by simp [World.setCell], ?_,fun i hi=>?_⟩
 ·simp [World.setCell,Array.getElem?_modify,h]
 ·simp [World.setCell,Array.getElem?_modify,Ne.symm hi]
theorem turned_refl {w:World} {b:Nat} {co:Obj} (h:w.heap[b]?=some co):ek b co w w:=⟨rfl,rfl,rfl,rfl,h,fun _ _=>rfl⟩
theorem RN (n:Nat) (h:2≤n):liesAt Tryz.prog Tryz.prog.depth 77 (n / Tryz.prog.cellsOf 77) 0 77 1=true:=by
 have hc:Tryz.prog.cellsOf 77=2:=ah;have h1:liesAt Tryz.prog Tryz.prog.depth 77 1 0 77 1=true:=ah;rw [hc];exact mF _ _ 1 _ _ _ _ aa h1
theorem Bn (b:Nat) (w:World) (h0:w.cell? ⟨b,0,none⟩=some (.pointer (some ⟨b,0,none⟩))):
  Calls Tryz.prog 98 #[.pointer (some ⟨b,0,none⟩)] w fun e w'=>e=.returned (.tuple #[])∧w'=w:=by
 exact Mi
theorem zw (b n:Nat) (w:World) (h0:w.cell? ⟨b,0,none⟩=some (.pointer none)) (rW:w.shape? b=some (77,n)) (hn:2≤n) (hfz:w.frozen? ⟨b,0,none⟩=false):
  Calls Tryz.prog 98 #[.pointer (some ⟨b,0,none⟩)] w fun e w'=>e=.returned (.tuple #[])∧w'=w.setCell ⟨b,0,none⟩ (.pointer (some ⟨b,0,none⟩)):=by
 obtain⟨j,hj,hjs⟩:=Option.map_eq_some_iff.1 Tryz.sizeBuilder;go_enter Tryz.func98,Tryz.ntmps98;go_wp2;rw [Lib.run_to_unsafe w ⟨b,0,none⟩ Tryz.underlying74 Tryz.underlying178 hj (by rw [hjs];decide) rW (by show 0<n;omega)];simp only [Result.andThen];rw [Oper.upon_value];go_wp2;rw [run_callFunc_extern Tryz.func152 ah ah ah (e:=Extern.AbiNoEscape.same) ah];rw [Lib.run_noEscape];simp only [Result.andThen];rw [Oper.upon_value];go_wp2;rw [Lib.run_from_unsafe w ⟨b,0,none⟩ Tryz.underlying178 Tryz.underlying74 hj rW (RN n hn)];simp only [Result.andThen];rw [Oper.upon_value];exact Bo
theorem RO (n:Nat) (h:4≤n):liesAt Tryz.prog Tryz.prog.depth 79 (n / Tryz.prog.cellsOf 79) 1 77 1=true:=by
 have hc:Tryz.prog.cellsOf 79=4:=ah;have h1:liesAt Tryz.prog Tryz.prog.depth 79 1 1 77 1=true:=ah;rw [hc];exact mF _ _ 1 _ _ _ _ aa h1
theorem rX (b:Nat) (w:World) (h0:w.cell? ⟨b,1,none⟩=some (.pointer (some ⟨b,1,none⟩))):
  Calls Tryz.prog 98 #[.pointer (some ⟨b,1,none⟩)] w fun e w'=>e=.returned (.tuple #[])∧w'=w:=by
 exact Mi
theorem pR (b n:Nat) (w:World) (h0:w.cell? ⟨b,1,none⟩=some (.pointer none)) (rW:w.shape? b=some (79,n)) (hn:4≤n) (hfz:w.frozen? ⟨b,1,none⟩=false):
  Calls Tryz.prog 98 #[.pointer (some ⟨b,1,none⟩)] w fun e w'=>e=.returned (.tuple #[])∧w'=w.setCell ⟨b,1,none⟩ (.pointer (some ⟨b,1,none⟩)):=by
 obtain⟨j,hj,hjs⟩:=Option.map_eq_some_iff.1 Tryz.sizeBuilder;go_enter Tryz.func98,Tryz.ntmps98;go_wp2;rw [Lib.run_to_unsafe w ⟨b,1,none⟩ Tryz.underlying74 Tryz.underlying178 hj (by rw [hjs];decide) rW (by show 1<n;omega)];simp only [Result.andThen];rw [Oper.upon_value];go_wp2;rw [run_callFunc_extern Tryz.func152 ah ah ah (e:=Extern.AbiNoEscape.same) ah];rw [Lib.run_noEscape];simp only [Result.andThen];rw [Oper.upon_value];go_wp2;rw [Lib.run_from_unsafe w ⟨b,1,none⟩ Tryz.underlying178 Tryz.underlying74 hj rW (RO n hn)];simp only [Result.andThen];rw [Oper.upon_value];exact Bo
theorem zx (b c:Nat) (w:World) (h1:w.cell? ⟨b,1,none⟩=some (.slice none 0 c)):
  Calls Tryz.prog 47 #[.pointer (some ⟨b,0,none⟩)] w fun e w'=>e=.returned (.string ⟨#[]⟩)∧w'=w.drew:=by
 have c1:w.drew.cell? ⟨b,1,none⟩=some (.slice none 0 c):=h1;have hUS:∀W:World,(Builtin.unsafeString_ #[139,3] 9 #[.pointer none,.int .i64 0]).run Tryz.prog W=.ok (.string .empty) W:=fun W=>Lib.run_unsafeString_none W _ _ _ none
 have hSD:(Builtin.unsafeSliceData_ #[75] 139 #[.slice none 0 c]).run Tryz.prog w.drew=.ok (.pointer none) w.drew:=rfl;go_enter Tryz.func47,Tryz.ntmps47;go_wp2;go_region
 all_goals (go_wp2;go_ret;exact⟨rfl,rfl⟩)
theorem zy (b g c:Nat) (ds:Array Value) (l:List UInt8) (w:World) (h1:w.cell? ⟨b,1,none⟩=some (.slice (some ⟨g,0,none⟩) l.length c)) (hc:c≠0) (h0:l≠[]) (h63:l.length≤100000000) (hg:w.heap[g]?=some (.cells ds 5 (0,0)))
  (hn:l.length≤ds.size) (hcell:∀(j:Nat) (x:UInt8),l[j]?=some x→ds[j]?=some (Value.int .u8 x.toNat)):
  Calls Tryz.prog 47 #[.pointer (some ⟨b,0,none⟩)] w fun e w'=>e=.returned (.string ⟨l.toArray⟩)∧w'=w.drew.freeze ⟨g,0,none⟩ l.length:=by
 have c1:w.drew.cell? ⟨b,1,none⟩=some (.slice (some ⟨g,0,none⟩) l.length c):=h1;have hSD:(Builtin.unsafeSliceData_ #[75] 139 #[.slice (some ⟨g,0,none⟩) l.length c]).run Tryz.prog w.drew=.ok (.pointer (some ⟨g,0,none⟩)) w.drew:=
  Lib.run_unsafeSliceData_row _ _ _ _ _ _ hc
 have hUS:(Builtin.unsafeString_ #[139,3] 9 #[.pointer (some ⟨g,0,none⟩),.int .i64 l.length]).run Tryz.prog w.drew=.ok (.string ⟨l.toArray⟩) (w.drew.freeze ⟨g,0,none⟩ l.length):=by
  exact Ya
 generalize l.length=n at*;generalize (⟨l.toArray⟩:ByteArray)=s at*;clear hcell h0;go_enter Tryz.func47,Tryz.ntmps47;go_wp2;go_region
 all_goals (go_wp2;go_ret;exact⟨rfl,rfl⟩)
theorem pS (b c:Nat) (w:World) (h1:w.cell? ⟨b,2,none⟩=some (.slice none 0 c)):
  Calls Tryz.prog 47 #[.pointer (some ⟨b,1,none⟩)] w fun e w'=>e=.returned (.string ⟨#[]⟩)∧w'=w.drew:=by
 have c1:w.drew.cell? ⟨b,2,none⟩=some (.slice none 0 c):=h1;have hUS:∀W:World,(Builtin.unsafeString_ #[139,3] 9 #[.pointer none,.int .i64 0]).run Tryz.prog W=.ok (.string .empty) W:=fun W=>Lib.run_unsafeString_none W _ _ _ none
 have hSD:(Builtin.unsafeSliceData_ #[75] 139 #[.slice none 0 c]).run Tryz.prog w.drew=.ok (.pointer none) w.drew:=rfl;go_enter Tryz.func47,Tryz.ntmps47;go_wp2;go_region
 all_goals (go_wp2;go_ret;exact⟨rfl,rfl⟩)
theorem pT (b g c:Nat) (ds:Array Value) (l:List UInt8) (w:World) (h1:w.cell? ⟨b,2,none⟩=some (.slice (some ⟨g,0,none⟩) l.length c)) (hc:c≠0) (h0:l≠[]) (h63:l.length≤100000000) (hg:w.heap[g]?=some (.cells ds 5 (0,0)))
  (hn:l.length≤ds.size) (hcell:∀(j:Nat) (x:UInt8),l[j]?=some x→ds[j]?=some (Value.int .u8 x.toNat)):
  Calls Tryz.prog 47 #[.pointer (some ⟨b,1,none⟩)] w fun e w'=>e=.returned (.string ⟨l.toArray⟩)∧w'=w.drew.freeze ⟨g,0,none⟩ l.length:=by
 have c1:w.drew.cell? ⟨b,2,none⟩=some (.slice (some ⟨g,0,none⟩) l.length c):=h1;have hSD:(Builtin.unsafeSliceData_ #[75] 139 #[.slice (some ⟨g,0,none⟩) l.length c]).run Tryz.prog w.drew=.ok (.pointer (some ⟨g,0,none⟩)) w.drew:=
  Lib.run_unsafeSliceData_row _ _ _ _ _ _ hc
 have hUS:(Builtin.unsafeString_ #[139,3] 9 #[.pointer (some ⟨g,0,none⟩),.int .i64 l.length]).run Tryz.prog w.drew=.ok (.string ⟨l.toArray⟩) (w.drew.freeze ⟨g,0,none⟩ l.length):=by
  exact Ya
 generalize l.length=n at*;generalize (⟨l.toArray⟩:ByteArray)=s at*;clear hcell h0;go_enter Tryz.func47,Tryz.ntmps47;go_wp2;go_region
 all_goals (go_wp2;go_ret;exact⟨rfl,rfl⟩)
theorem wJ {w:World} {g n:Nat} {ds:Array Value} {t:TypeId} {fr:Nat × Nat} (h:w.heap[g]?=some (.cells ds t fr)):∃co,ek g co w (w.freeze ⟨g,0,none⟩ n):=by
 unfold World.freeze;split
 ·exact⟨_,turned_refl h⟩
 ·have hm:∀f:Obj→Obj,(w.heap.modify g f)[g]?=some (f (.cells ds t fr)):=fun f=>by
   rw [Array.getElem?_modify,if_pos rfl,h];rfl
  exact⟨_,rfl,rfl,rfl,by simp,hm _,fun i hi=>by simp [Array.getElem?_modify,Ne.symm hi]⟩
theorem mG {w w':World} {b:Nat} {co:Obj} (h:ek b co w.drew w'):ek b co w w':=⟨h.os,h.tape,h.output,h.size,h.at_,h.other⟩
def Db:Bd:=⟨98,47,5,fun t n o=>(Nat.beq t 77 && Nat.beq o 0 && Nat.ble 2 n)||(Nat.beq t 79 && Nat.beq o 1 && Nat.ble 4 n)⟩
theorem fh {t n o:Nat} (h:Db.ok t n o=true):(t=77∧o=0∧2≤n)∨(t=79∧o=1∧4≤n):=by
 have h':((Nat.beq t 77 && Nat.beq o 0 && Nat.ble 2 n)||(Nat.beq t 79 && Nat.beq o 1 && Nat.ble 4 n))=true:=h;simp only [Bool.or_eq_true,Bool.and_eq_true] at h';rcases h' with⟨⟨h1,h2⟩,h3⟩|⟨⟨h1,h2⟩,h3⟩
 ·exact .inl ⟨Nat.eq_of_beq_eq_true h1,Nat.eq_of_beq_eq_true h2,Nat.le_of_ble_eq_true h3⟩
 ·exact .inr ⟨Nat.eq_of_beq_eq_true h1,Nat.eq_of_beq_eq_true h2,Nat.le_of_ble_eq_true h3⟩
theorem Gw:Mj Tryz.prog Db:=by
 refine⟨fun t n n' o hn h=>?_,fun t n o h=>?_,fun w b o t cs h hb hc=>?_,fun w b o t cs h hb hc=>?_,fun w b o t cs c h hb hc=>?_,fun w b o t cs g c ds l h hb hc a1 a2 a3 a4 a5 a6=>?_⟩
 ·rcases fh h with⟨rfl,rfl,h3⟩|⟨rfl,rfl,h3⟩
  ·show((Nat.beq 77 77 && Nat.beq 0 0 && Nat.ble 2 n')||(Nat.beq 77 79 && Nat.beq 0 1 && Nat.ble 4 n'))=true;rw [Nat.ble_eq_true_of_le (Nat.le_trans h3 hn)];rfl
  ·show((Nat.beq 79 77 && Nat.beq 1 0 && Nat.ble 2 n')||(Nat.beq 79 79 && Nat.beq 1 1 && Nat.ble 4 n'))=true;rw [Nat.ble_eq_true_of_le (Nat.le_trans h3 hn)];rfl
 ·rcases fh h with⟨rfl,rfl,h3⟩|⟨rfl,rfl,h3⟩<;>omega
 ·rcases fh h with⟨rfl,rfl,h3⟩|⟨rfl,rfl,h3⟩
  ·exact(zw b _ w rY (jE hb) h3 (Lib.frozen_of_heap hb 0)).mono fun e w' ⟨h1,h2⟩=>⟨h1,by rw [h2];exact dD hb⟩
  ·exact(pR b _ w rY (jE hb) h3 (Lib.frozen_of_heap hb 1)).mono fun e w' ⟨h1,h2⟩=>⟨h1,by rw [h2];exact dD hb⟩
 ·rcases fh h with⟨rfl,rfl,h3⟩|⟨rfl,rfl,h3⟩
  ·exact(Bn b w rY).mono fun e w' ⟨h1,h2⟩=>⟨h1,by rw [h2];exact turned_refl hb⟩
  ·exact(rX b w rY).mono fun e w' ⟨h1,h2⟩=>⟨h1,by rw [h2];exact turned_refl hb⟩
 ·rcases fh h with⟨rfl,rfl,h3⟩|⟨rfl,rfl,h3⟩
  ·exact(zx b c w rY).mono fun e w' ⟨h1,h2⟩=>⟨h1,by rw [h2];exact mG (turned_refl hb)⟩
  ·exact(pS b c w rY).mono fun e w' ⟨h1,h2⟩=>⟨h1,by rw [h2];exact mG (turned_refl hb)⟩
 ·rcases fh h with⟨rfl,rfl,h3⟩|⟨rfl,rfl,h3⟩
  ·refine(zy b g c ds l w rY a1 a2 (Nat.le_trans a3 ai) a4 a5 a6).mono fun e w' ⟨h1,h2⟩=>⟨h1, ?_⟩
   exact Ml
  ·refine(pT b g c ds l w rY a1 a2 (Nat.le_trans a3 ai) a4 a5 a6).mono fun e w' ⟨h1,h2⟩=>⟨h1, ?_⟩
   exact Ml
end Go.Proofs.YtjchnliaglecoaaGreatDoor