/- A part of the proof. Conditions: none. -/
import Derived.Test.YtjchnliaglecoaaGreatDoorZz
import Derived.Test.YtjchnliaglecoaaGreatDoorCgX
import Derived.Test.YtjchnliaglecoaaGreatDoorSg0X
import Derived.Test.YtjchnliaglecoaaGreatDoorSvX
set_option linter.unusedVariables false
set_option linter.unusedSimpArgs false
set_option maxRecDepth 100000
set_option maxHeartbeats 8000000
namespace Go.Proofs.YtjchnliaglecoaaGreatDoor
open Go Go.RowKit Go.Nodes
theorem wZ (ns:List Nd) (v:List Bool):∀(l:List Nd) (n:Nat) (us:List Bool),ns.drop n=l→lu ns n→eF ns l n us=(none,v)→lu ns ns.length
 |[],n,us,hd,hv,_=>by
  have:ns.length≤n:=by simpa using hd
  intro i x hi hx;exact hv i x aa hx
 |x::l,n,us,hd,hv,h=>by
  have hn:n<ns.length:=by
   rcases Nat.lt_or_ge n ns.length with h|h
   ·exact h
   ·rw [List.drop_eq_nil_of_le h] at hd;cases hd
  have iM:=List.drop_eq_getElem_cons hn;rw [hd] at iM;obtain⟨h1,h2⟩:=List.cons.inj iM;cases hk:dS n x.kids us with
  |none=>unfold eF at h;simp only [hk] at h;cases h
  |some cy=>
   cases ho:okB ns x with
   |false=>rw [ud hk ho] at h;cases h
   |true=>
    rw [yE hk ho] at h;refine wZ ns v l (n+1) cy h2.symm (fun i y hi hy=>?_) h;by_cases QC:i<n
    ·exact hv i y QC hy
    ·obtain rfl:i=n:=by omega
     rw [List.getElem?_eq_getElem hn,←h1] at hy;cases hy;exact rL hk ho
theorem xb {ns:List Nd} (h:(bF ns).2=0):lu ns ns.length∧aB ns ((ns.length - 1:Nat):Int)=1:=by
 have ht:=taken h;unfold bF at h;split at h
 ·exact absurd h (show ¬((60:Int)=0) by decide)
 ·rename_i u hs;refine⟨wZ ns u ns 0 _ rfl (fun i x hi=>absurd hi aa) hs, ?_⟩;split at h
  ·exact absurd h (show ¬((60:Int)=0) by decide)
  split at h
  ·rename_i hr;unfold lR at hr;have h1:=List.all_eq_true.1 hr (ns.length - 1) (by rw [List.mem_range];omega);simp only [Bool.and_eq_true,decide_eq_true_eq] at h1;exact h1.1.2 aa
  ·exact absurd h (show ¬((60:Int)=0) by decide)
theorem Fc {ns:List Nd} (he:(bF ns).2=0) (h4:C1 ns) (hc:iN ns):Tr ns:=⟨(taken he).1,(xb he).1,h4,hc⟩
theorem JR (c0:UInt8) (m0:List UInt8) (h:c0≠32):Lib.cut (c0::32::m0) [32]=([c0],m0,true):=by
 have:Lib.index (c0::32::m0) [32]=1:=by
  rw [eB,if_neg h,eB,if_pos rfl];rfl
 exact C2
theorem Gm {l:List UInt8} (h:iO l=true):∃c0 m0,l=c0::32::m0∧c0≠32:=by
 unfold iO at h;split at h
 ·rename_i c m;rw [Bool.and_eq_true] at h;refine⟨c,m,rfl,fun e=>?_⟩;subst e;exact absurd h.1 ai
 ·cases h
theorem Fe {ns:List Nd} (he:(bF ns).2=0) (h4:C1 ns) (hc:iN ns):∃L1 n1,∃hL:ns.length=L1+1,(ns[L1]'aa).kind=1∧(ns[L1]'aa).kids.length=n1+1∧JS ns=JT ns (ns[L1]'aa)∧
  (∀i,i<n1→∃(z:Nat) (c0:UInt8) (m0:List UInt8),(ns[L1]'aa).kids.getD i 0=(z:Int)∧z<ns.length∧(eY ns (z:Int)).data.toList=c0::32::m0∧c0≠32):=by
 have ht:=Fc he h4 hc;obtain⟨_,h0,_⟩:=taken he;obtain⟨L1,hL⟩:∃L1,ns.length=L1+1:=⟨ns.length - 1,by omega⟩;have hlt:L1<ns.length:=aa;have hk:ns[L1].kind=1:=by
  have:=(xb he).2
  rwa [hL,Nat.add_sub_cancel,aY (List.getElem?_eq_getElem hlt)] at this
 have hl:1≤ns[L1].kids.length:=eo ht hlt hk;refine⟨L1,ns[L1].kids.length - 1,hL,hk,by omega, ?_,fun i hi=>?_⟩
 ·unfold JS;rw [show ns.length - 1=L1 by omega,List.getElem?_eq_getElem hlt]
 ·have hv:=ht.all L1 ns[L1] hlt (List.getElem?_eq_getElem hlt);have hf:=hv.fits;rw [hk] at hf;have AO:=kr (c:=104) (f:=[98]) hf ai ai (i:=i) (by show i<ns[L1].kids.length - 1;omega);have h2:(aB ns (ns[L1].kids.getD i 0)).toNat=2:=Nat.eq_of_beq_eq_true AO;obtain⟨q0,q1⟩:=ku ht hlt (show i<ns[L1].kids.length by omega);obtain⟨z,hz⟩:∃z:Nat,ns[L1].kids.getD i 0=z:=⟨(ns[L1].kids.getD i 0).toNat,by omega⟩;have hzl:z<ns.length:=aa;rw [hz,aY (List.getElem?_eq_getElem hzl)] at h2;have XA:=(ht.all z ns[z] hzl (List.getElem?_eq_getElem hzl)).text;rw [h2] at XA;obtain⟨c0,m0,e1,e2⟩:=Gm XA;refine⟨z,c0,m0,hz,hzl, ?_,e2⟩;rw [eY,Int.toNat_natCast,List.getElem?_eq_getElem hzl];exact e1
theorem Ff (s:ByteArray) (c0:UInt8) (m0:List UInt8) (h:s.data.toList=c0::32::m0):s.extract 0 1=⟨#[c0]⟩∧s.extract 2 s.size=⟨m0.toArray⟩∧2≤s.size:=by
 have hs:s.size=m0.length+2:=by
  have:s.data.toList.length=s.size:=ak;rw [h] at this;simp at this;omega
 refine⟨?_, ?_,by omega⟩
 ·rw [Lib.extract_eq,h];rfl
 ·rw [Lib.extract_eq,h,hs];show(⟨(List.take (m0.length+2 - 2) m0).toArray⟩:ByteArray)=_;rw [Nat.add_sub_cancel,List.take_length]
theorem xd {ns:List Nd} (he:(bF ns).2=0) (h4:C1 ns) (hc:iN ns) {L1 n1:Nat} (hL:ns.length=L1+1) (hn:(ns[L1]'aa).kids.length=n1+1):
  (∀i,i≤n1→(bt (fun i=>eG ns ((ns[L1]'aa).kids.getD i 0)) i).size≤40000000)∧(bt (fun i=>eG ns ((ns[L1]'aa).kids.getD i 0)) n1).size+(aL ns (dz ns ns.length).2.2 ((ns[L1]'aa).kids.getD n1 0) 0).size≤40000000:=by
 have ht:=Fc he h4 hc;have hlt:L1<ns.length:=aa;obtain⟨_,_,hw⟩:=taken he;have hcs:cs ns (L1:Int)≤40000000:=by
  unfold cs;rw [hL,Nat.add_sub_cancel] at hw;rw [Int.toNat_natCast];have:=h4.1;omega
 have hc0:=rM ht hlt;rw [hn] at hc0;simp only [sumTo] at hc0;have hch:∀m,m≤n1→(bt (fun i=>eG ns (ns[L1].kids.getD i 0)) m).size≤sumTo (fun i=>cs ns (ns[L1].kids.getD i 0)) m:=fun m hm=>by
  refine yF _ _ _ fun i hi=>?_
  obtain⟨q0,q1⟩:=ku ht hlt (show i<ns[L1].kids.length by omega);have h1:=C3 ht.ahead _ q0;have h2:=lS ht (ns[L1].kids.getD i 0);have h3:=nc ((eY ns (ns[L1].kids.getD i 0)).extract 2 (eY ns (ns[L1].kids.getD i 0)).size);have e1:(⟨#[99,104,97,110,110,101,108,32]⟩:ByteArray).size=8:=rfl;have e2:(⟨#[32,61,32]⟩:ByteArray).size=3:=rfl;have e3:(⟨#[10]⟩:ByteArray).size=1:=rfl;have h4:((eY ns (ns[L1].kids.getD i 0)).extract 0 1).size≤4000:=Fg;have h5:((eY ns (ns[L1].kids.getD i 0)).extract 2 (eY ns (ns[L1].kids.getD i 0)).size).size≤4000:=Fg;unfold eG
  repeat rw [ByteArray.size_append]
  rw [e1,e2,e3];omega
 have hall:=AP ht ns.length;have hq:=ku ht hlt (show n1<ns[L1].kids.length by omega);have hb:=ou (N:=L1) ht (fun k d a b c=>hall.2.2 k d a c) (ns[L1].kids.getD n1 0) 0 hq.1 hq.2 (by have:=h4.1;omega);refine⟨fun i hi=>?_, ?_⟩
 ·have:=hch i hi;have h2:=kA (fun i=>cs ns (ns[L1].kids.getD i 0)) i n1 hi;omega
 ·have:=hch n1 (Nat.le_refl _);omega
def gh (ns:List Nd):ByteArray:=if(bF ns).2=0 then JS ns else⟨#[]⟩
end Go.Proofs.YtjchnliaglecoaaGreatDoor