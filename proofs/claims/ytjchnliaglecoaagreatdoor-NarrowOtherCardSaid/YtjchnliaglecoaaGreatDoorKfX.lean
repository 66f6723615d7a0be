/- A part of the proof. Conditions: none. -/
import Derived.Outline
import Derived.Test.YtjchnliaglecoaaGreatDoorZz
import Derived.Test.YtjchnliaglecoaaGreatDoorLbX
import Derived.Test.YtjchnliaglecoaaGreatDoorTs
set_option linter.unusedVariables false
set_option linter.unusedSimpArgs false
set_option maxRecDepth 100000
set_option maxHeartbeats 8000000
namespace Go.Proofs.YtjchnliaglecoaaGreatDoor
open Go Go.RowKit
def mV (sp:Nat):List UInt8→List Nat→Bool
 |[],_=>true
 |c::f,ks=>if c=42∨c=46 then mV sp f ks else
   (ks.take (if f.head?=some 42 then sp else 1)).all (fun k=>pL k c.toNat) && mV sp f (ks.drop (if f.head?=some 42 then sp else 1))
def lD (sp:Nat):List UInt8→Nat
 |[]=>0
 |c::f=>if c=42∨c=46 then lD sp f else(if f.head?=some 42 then sp else 1)+lD sp f
theorem B5 (sp:Nat) (f:List UInt8) (i:Nat) (hi:i<f.length) (ks:List Nat):mV sp (f.drop i) ks=if f[i]=42∨f[i]=46 then mV sp (f.drop (i+1)) ks else
   (ks.take (if f[i+1]?=some 42 then sp else 1)).all (fun k=>pL k f[i].toNat) && mV sp (f.drop (i+1)) (ks.drop (if f[i+1]?=some 42 then sp else 1)):=by
 rw [List.drop_eq_getElem_cons hi]
 conv=>lhs;unfold mV
 rw [List.head?_drop]
theorem ze (sp:Nat) (f:List UInt8) (i:Nat) (hi:i<f.length):lD sp (f.drop i)=if f[i]=42∨f[i]=46 then lD sp (f.drop (i+1)) else(if f[i+1]?=some 42 then sp else 1)+lD sp (f.drop (i+1)):=by
 rw [List.drop_eq_getElem_cons hi]
 conv=>lhs;unfold lD
 rw [List.head?_drop]
def Dq (w:World) (p q:Option Addr) (n:Nat) (ks:List Nat):Prop:=∀(i k:Nat),ks[i]?=some k→0<k∧k<37∧
 ∃b o bq oq kk:Nat,p=some ⟨b,o,none⟩∧q=some ⟨bq,oq,none⟩∧b<w.heap.size∧bq<w.heap.size∧kk<n∧w.cell? ⟨bq,oq+i,none⟩=some (.int .i64 kk)∧w.cell? ⟨b,o+kk*4,none⟩=some (.int .i64 k)
theorem JR (w:World) (p q:Option Addr) (n c m d:Nat) (f:ByteArray) (hf:f.size≤10) (hm:m≤20000) (hn:n≤5000) (ks:List Nat) (cO:ks.length=m) (hk:Dq w p q n ks)
  (F sp:Nat) (hF:(m:Int)=F+sp) (hne:(f.toList==[])=false) (hd:(f.toList==[46])=false) (st:Nat) (hst:(st:Int)≤5) (hfs:(f.size:Int)=F+2*st) (hsp:sp=0)
  (hc:∀w,Calls Tryz.prog 179 #[.string f,.string ⟨#[42]⟩] w fun e w'=>e=.returned (.int .i64 st)∧w'=w)
  (sL:∀x∈f.data.toList,x.toNat∈letters∨x=42∨x=46) (wC:lD sp f.data.toList≤m) (R:Bool) (hR:mV sp f.data.toList ks=R):
  Calls Tryz.prog 140 #[.slice p n c,.slice q m d,.string f] w fun e w'=>e=dI R∧Below w.heap.size w w':=by
 have Hc:=hid hc;have Hk:=hid hk;have lN:=hid cO;have JS:=hid sL;have HR:=hid hR;have R8:=hid wC;have xu:f.toList.isEmpty=false:=by cases e:f.toList with
  |nil=>rw [e] at hne;cases hne
  |cons x l=>rfl
 have iZ:(f.size:Int) - 2*(st:Int)=(F:Int):=af;have hF2:(m:Int) - (F:Int)=(sp:Int):=af;have hF3:(F:Int)≤(m:Int):=af;have tF:(m:Int)≤20000:=af;have hsm:sp≤m:=af;have F0:f.data.toList.length=f.size:=ak;have Hfl:=hid F0;clear hc hk cO sL hR wC hF hfs F0;go_enter Tryz.func140,Tryz.ntmps140;go_wp2_with (first
  |(go_at_call 139;refine(eM _).mono ?_;rintro e w' ⟨rfl,hw⟩;rw [hw];clear hw w')
  |(go_at_call 179;refine(Hc.out _).mono ?_;rintro e w' ⟨rfl,hw⟩;rw [hw];clear hw w'))
 go_loopw [9] (fun av wr=>∃(pos bE:Nat) (g:gQ),av=.int .i64 bE∧wr=grow (w.iter f pos) g∧pos≤f.size∧bE≤m∧Hid (mV sp (f.data.toList.drop pos) (ks.drop bE)=R∧bE+lD sp (f.data.toList.drop pos)≤m)) (fun _ wr=>f.size - wr.iterPos w.heap.size)
 case atStart=>exact⟨0,0,_,rfl,(eZ _).symm,by omega,by omega,HR.out,by have:=R8.out;simpa using this⟩
 case round=>
  obtain⟨pos,bE,g,rfl,rfl,hp,hat,hR⟩:=hrel;by_cases hlt:pos<f.size
  ·have hpl:pos<f.data.toList.length:=by rw [Hfl.out];exact hlt
   have wD:=B5 sp f.data.toList pos hpl (ks.drop bE);have JT:=ze sp f.data.toList pos hpl;rw [hR.out.1] at wD;have tu:=hR.out.2;rw [JT] at tu;have hb:f.data.toList[pos]=f[pos]:=k6;have hx:=JS.out _ (List.getElem_mem hpl);rw [hb] at wD tu hx;have qQ:(f[pos]).toNat<128:=by
    exact R9
   have hdec:=decode_ascii f pos hlt qQ;have nx:=mY (P:=Tryz.prog) f pos _ (pos+1) hlt EU af;have C6:((f[pos]).toNat=42∨(f[pos]).toNat=46)↔(f[pos]=42∨f[pos]=46):=by
    exact Sa
   by_cases hcs:f[pos]=42∨f[pos]=46
   ·exact adI
   ·rw [if_neg hcs] at wD tu;have hnc:(f[pos]).toNat≠42∧(f[pos]).toNat≠46:=⟨fun h=>hcs (C6.1 (.inl h)),fun h=>hcs (C6.1 (.inr h))⟩;have Ai:(f[pos]).toNat∈letters:=by
     exact Sb
    have F5:f.data.toList[pos+1]?=if h:pos+1<f.size then some f[pos+1] else none:=by
     split
     ·rename_i h;exact Sc
     ·rename_i h;exact List.getElem?_eq_none (by rw [Hfl.out];omega)
    rw [F5] at wD tu;have hc1:(((f[pos]).toNat:Int)==42)=false:=by
     exact Sd
    have hc2:(((f[pos]).toNat:Int)==46)=false:=by
     exact Sg
    generalize (f[pos]).toNat=c1 at*;have hp1:(pos:Int)+1≤10:=af;clear hnc C6 hcs hdec hx hb JT hR F5 qQ;by_cases BJ:pos+1<f.size
    ·rw [dif_pos BJ] at wD tu;have l7:(pos:Int)+1<(f.size:Int):=af;by_cases hs:f[pos+1]=42
     ·rw [hs,if_pos rfl] at wD tu;have hs1:(f[pos+1]).toNat=42:=by rw [hs];rfl
      have Hru:=hid wD;have NC:=hid tu;clear wD tu hs;go_wp2;go_loopw [9,66] (fun av cv wr=>∃(j:Nat) (g2:gQ),av=.int .i64 ((bE+j:Nat):Int)∧cv=.int .i64 j∧wr=grow (w.iter f (pos+1)) g2∧j≤sp∧Hid ((((ks.drop bE).drop j).take (sp - j)).all (fun k=>pL k c1)=((ks.drop bE).take sp).all (fun k=>pL k c1))) (fun _ cv _=>sp - (intOf cv).toNat)
      case atStart=>exact⟨0,g,by simp,rfl,rfl,by omega,rfl⟩
      case round=>
       obtain⟨j,g2,rfl,rfl,rfl,hj,hJ⟩:=hrel;by_cases hjn:j<sp
       ·omega
       ·exact adK
     ·exact adL
    ·exact adM
  ·exact adN
theorem JU (w:World) (p q:Option Addr) (n c m d:Nat) (f:ByteArray) (hf:f.size≤10) (hm:m≤20000) (hn:n≤5000) (ks:List Nat) (cO:ks.length=m) (hk:Dq w p q n ks)
  (F sp:Nat) (hF:(m:Int)=F+sp) (hne:(f.toList==[])=false) (hd:(f.toList==[46])=false) (st:Nat) (hst:(st:Int)≤5) (hfs:(f.size:Int)=F+2*st) (aq5:((sp:Int)==0)=false) (axa:(0:Int)<(sp:Int)) (axb:(0:Int)<(st:Int))
  (hc:∀w,Calls Tryz.prog 179 #[.string f,.string ⟨#[42]⟩] w fun e w'=>e=.returned (.int .i64 st)∧w'=w)
  (sL:∀x∈f.data.toList,x.toNat∈letters∨x=42∨x=46) (wC:lD sp f.data.toList≤m) (R:Bool) (hR:mV sp f.data.toList ks=R):
  Calls Tryz.prog 140 #[.slice p n c,.slice q m d,.string f] w fun e w'=>e=dI R∧Below w.heap.size w w':=by
 have Hc:=hid hc;have Hk:=hid hk;have lN:=hid cO;have JS:=hid sL;have HR:=hid hR;have R8:=hid wC;have xu:f.toList.isEmpty=false:=by cases e:f.toList with
  |nil=>rw [e] at hne;cases hne
  |cons x l=>rfl
 have iZ:(f.size:Int) - 2*(st:Int)=(F:Int):=af;have hF2:(m:Int) - (F:Int)=(sp:Int):=af;have hF3:(F:Int)≤(m:Int):=af;have tF:(m:Int)≤20000:=af;have hsm:sp≤m:=af;have F0:f.data.toList.length=f.size:=ak;have Hfl:=hid F0;have nH:decide (0<st)=true:=decide_eq_true af;clear hc hk cO sL hR wC hF hfs F0;go_enter Tryz.func140,Tryz.ntmps140;go_wp2_with (first
  |(go_at_call 139;refine(eM _).mono ?_;rintro e w' ⟨rfl,hw⟩;rw [hw];clear hw w')
  |(go_at_call 179;refine(Hc.out _).mono ?_;rintro e w' ⟨rfl,hw⟩;rw [hw];clear hw w'))
 go_loopw [9] (fun av wr=>∃(pos bE:Nat) (g:gQ),av=.int .i64 bE∧wr=grow (w.iter f pos) g∧pos≤f.size∧bE≤m∧Hid (mV sp (f.data.toList.drop pos) (ks.drop bE)=R∧bE+lD sp (f.data.toList.drop pos)≤m)) (fun _ wr=>f.size - wr.iterPos w.heap.size)
 case atStart=>exact⟨0,0,_,rfl,(eZ _).symm,by omega,by omega,HR.out,by have:=R8.out;simpa using this⟩
 case round=>
  obtain⟨pos,bE,g,rfl,rfl,hp,hat,hR⟩:=hrel;by_cases hlt:pos<f.size
  ·have hpl:pos<f.data.toList.length:=by rw [Hfl.out];exact hlt
   have wD:=B5 sp f.data.toList pos hpl (ks.drop bE);have JT:=ze sp f.data.toList pos hpl;rw [hR.out.1] at wD;have tu:=hR.out.2;rw [JT] at tu;have hb:f.data.toList[pos]=f[pos]:=k6;have hx:=JS.out _ (List.getElem_mem hpl);rw [hb] at wD tu hx;have qQ:(f[pos]).toNat<128:=by
    exact R9
   have hdec:=decode_ascii f pos hlt qQ;have nx:=mY (P:=Tryz.prog) f pos _ (pos+1) hlt EU af;have C6:((f[pos]).toNat=42∨(f[pos]).toNat=46)↔(f[pos]=42∨f[pos]=46):=by
    exact Sa
   by_cases hcs:f[pos]=42∨f[pos]=46
   ·exact adI
   ·rw [if_neg hcs] at wD tu;have hnc:(f[pos]).toNat≠42∧(f[pos]).toNat≠46:=⟨fun h=>hcs (C6.1 (.inl h)),fun h=>hcs (C6.1 (.inr h))⟩;have Ai:(f[pos]).toNat∈letters:=by
     exact Sb
    have F5:f.data.toList[pos+1]?=if h:pos+1<f.size then some f[pos+1] else none:=by
     split
     ·rename_i h;exact Sc
     ·rename_i h;exact List.getElem?_eq_none (by rw [Hfl.out];omega)
    rw [F5] at wD tu;have hc1:(((f[pos]).toNat:Int)==42)=false:=by
     exact Sd
    have hc2:(((f[pos]).toNat:Int)==46)=false:=by
     exact Sg
    generalize (f[pos]).toNat=c1 at*;have hp1:(pos:Int)+1≤10:=af;clear hnc C6 hcs hdec hx hb JT hR F5 qQ;by_cases BJ:pos+1<f.size
    ·rw [dif_pos BJ] at wD tu;have l7:(pos:Int)+1<(f.size:Int):=af;by_cases hs:f[pos+1]=42
     ·rw [hs,if_pos rfl] at wD tu;have hs1:(f[pos+1]).toNat=42:=by rw [hs];rfl
      have Hru:=hid wD;have NC:=hid tu;clear wD tu hs;go_wp2;go_loopw [9,66] (fun av cv wr=>∃(j:Nat) (g2:gQ),av=.int .i64 ((bE+j:Nat):Int)∧cv=.int .i64 j∧wr=grow (w.iter f (pos+1)) g2∧j≤sp∧Hid ((((ks.drop bE).drop j).take (sp - j)).all (fun k=>pL k c1)=((ks.drop bE).take sp).all (fun k=>pL k c1))) (fun _ cv _=>sp - (intOf cv).toNat)
      case atStart=>exact⟨0,g,by simp,rfl,rfl,by omega,rfl⟩
      case round=>
       obtain⟨j,g2,rfl,rfl,rfl,hj,hJ⟩:=hrel;by_cases hjn:j<sp
       ·have haj:bE+j<ks.length:=by rw [lN.out];have:=NC.out;omega
        have hdj:((ks.drop bE).drop j).take (sp - j)=ks[bE+j]::((ks.drop bE).drop (j+1)).take (sp - (j+1)):=by
         rw [List.drop_drop,List.drop_eq_getElem_cons haj,show sp - j=(sp - (j+1))+1 by omega,List.take_succ_cons,List.drop_drop];rfl
        have hJ2:=hJ.out;rw [hdj,List.all_cons] at hJ2;obtain⟨k0,Q4,b,o,bq,oq,kk,rfl,rfl,hb1,hb2,Ra,BH,yX⟩:=Hk.out (bE+j) ks[bE+j] (List.getElem?_eq_getElem haj);generalize ks[bE+j]=kd at*;have HJ:=hid hJ2;have a0:(0:Int)≤((bE+j:Nat):Int):=af;have a1:((bE+j:Nat):Int)<(m:Int):=by have:=lN.out;omega
        have a2:(kk:Int)<(n:Int):=af;have a3:(j:Int)<(sp:Int):=af;exact al1
       ·exact adK
     ·exact adL
    ·exact adM
  ·exact adN
end Go.Proofs.YtjchnliaglecoaaGreatDoor

/- A part of the proof. Conditions: none. -/
set_option maxRecDepth 100000
set_option maxHeartbeats 8000000
namespace Go.Proofs.YtjchnliaglecoaaGreatDoor
open Go Go.RowKit
def fJ (f:List UInt8) (ks:List Nat):Bool:=
 if f=[46] then ks.isEmpty else
 if ks.length<f.length - 2*f.count 42 then false else
 if ks.length≠f.length - 2*f.count 42∧f.count 42=0 then false else mV (ks.length - (f.length - 2*f.count 42)) f ks
theorem Zy (w:World) (p q:Option Addr) (n c m d:Nat) (f:ByteArray) (hf:f.size≤10) (hm:(m:Int)≤20000) (F:Nat) (hlt:(m:Int) - (F:Int)<0) (hne:(f.toList==[])=false) (hd:(f.toList==[46])=false)
  (st:Nat) (hst:(st:Int)≤5) (hfs:(f.size:Int) - 2*(st:Int)=(F:Int)) (hc:∀w,Calls Tryz.prog 179 #[.string f,.string ⟨#[42]⟩] w fun e w'=>e=.returned (.int .i64 st)∧w'=w):
  Calls Tryz.prog 140 #[.slice p n c,.slice q m d,.string f] w fun e w'=>e=dI false∧Below w.heap.size w w':=by
 exact Ty
theorem Zz (w:World) (p q:Option Addr) (n c m d:Nat) (f:ByteArray) (hf:f.size≤10) (hm:(m:Int)≤20000) (F sp:Nat) (hsp:(m:Int) - (F:Int)=(sp:Int)) (aq5:((sp:Int)==0)=false) (hne:(f.toList==[])=false) (hd:(f.toList==[46])=false)
  (hfs:(f.size:Int)=(F:Int)) (hc:∀w,Calls Tryz.prog 179 #[.string f,.string ⟨#[42]⟩] w fun e w'=>e=.returned (.int .i64 0)∧w'=w):
  Calls Tryz.prog 140 #[.slice p n c,.slice q m d,.string f] w fun e w'=>e=dI false∧Below w.heap.size w w':=by
 exact Ty
theorem NK (w:World) (p q:Option Addr) (n c m d:Nat) (f:ByteArray) (hf:f.size≤10) (hm:(m:Int)≤20000) (O3:((m:Int)==0)=false) (hne:(f.toList==[])=false) (hd:(f.toList==[46])=true)
  (hc:∀w,Calls Tryz.prog 179 #[.string f,.string ⟨#[42]⟩] w fun e w'=>e=.returned (.int .i64 0)∧w'=w):
  Calls Tryz.prog 140 #[.slice p n c,.slice q m d,.string f] w fun e w'=>e=dI false∧Below w.heap.size w w':=by
 exact Ty
theorem NJ (w:World) (p q:Option Addr) (n c d:Nat) (hc:∀w,Calls Tryz.prog 179 #[.string ⟨#[46]⟩,.string ⟨#[42]⟩] w fun e w'=>e=.returned (.int .i64 0)∧w'=w):
  Calls Tryz.prog 140 #[.slice p n c,.slice q 0 d,.string ⟨#[46]⟩] w fun e w'=>e=dI true∧Below w.heap.size w w':=by
 have Hc:=hid hc;have nx:=J9 (P:=Tryz.prog) ⟨#[46]⟩ 0 46 1 aj eV af;have ne:=ua (P:=Tryz.prog) ⟨#[46]⟩ 1 aj;clear hc;go_enter Tryz.func140,Tryz.ntmps140;go_wp2_with (first
  |(go_at_call 139;((with_reducible refine(eM _).mono ?_));rintro e w' ⟨rfl,hw⟩;rw [hw];clear hw w')
  |(go_at_call 179;refine(Hc.out _).mono ?_;rintro e w' ⟨rfl,hw⟩;rw [hw];clear hw w'))
 refine wp_loop_rounds 2 ?_;rw [rounds_succ];go_wp2;rw [rounds_succ];exact SR
end Go.Proofs.YtjchnliaglecoaaGreatDoor

/- A part of the proof. Conditions: none. -/
set_option maxRecDepth 100000
set_option maxHeartbeats 8000000
namespace Go.Proofs.YtjchnliaglecoaaGreatDoor
open Go Go.RowKit
def qc:List (List UInt8):=qj.tail
theorem JW:∀f∈qc,f=[46]∨∀sp,lD sp f=(f.length - 2*f.count 42)+f.count 42*sp:=by
 intro f hf;simp only [qc,qj,List.tail_cons,List.mem_cons,List.not_mem_nil,or_false] at hf;rcases hf with rfl|rfl|rfl|rfl|rfl|rfl|rfl|rfl|rfl|rfl|rfl|rfl|rfl|rfl|rfl|rfl|rfl|rfl|rfl|rfl|rfl|rfl|rfl|rfl|rfl|rfl|rfl|rfl|rfl|rfl|rfl|rfl|rfl|rfl|rfl|rfl
 all_goals first
  |(left;rfl)
  |(right;intro sp;simp [lD];done)
  |(right;intro sp;simp [lD,List.count_cons];omega)
theorem Sv:(qc.all fun f=> !f.isEmpty && decide (f.length≤10) && decide (2*f.count 42≤f.length) && decide (f.count 42≤1) && f.all (fun x=>letters.contains x.toNat||decide (x=42)||decide (x=46)) && (decide (f=[46])||decide (f.count 46=0)))=true:=by decide+kernel
theorem RF (w:World) (p q:Option Addr) (n c m d:Nat) (f:List UInt8) (yU:f∈qc) (hm:m≤20000) (hn:n≤5000) (ks:List Nat) (cO:ks.length=m) (hk:Dq w p q n ks):
  Calls Tryz.prog 140 #[.slice p n c,.slice q m d,str f] w fun e w'=>e=dI (fJ f ks)∧Below w.heap.size w w':=by
 have vg:=List.all_eq_true.1 Sv f yU;simp only [Bool.and_eq_true,Bool.not_eq_true',decide_eq_true_eq] at vg;obtain⟨⟨⟨⟨⟨o1,o2⟩,o3⟩,o4⟩,o5⟩,o6⟩:=vg;have XK:(⟨f.toArray⟩:ByteArray).data.toList=f:=ak;have xy:(⟨f.toArray⟩:ByteArray).toList=f:=by rw [ByteArray.toList_eq]
 have hsz:(⟨f.toArray⟩:ByteArray).size=f.length:=by simp [ByteArray.size]
 have hne:((⟨f.toArray⟩:ByteArray).toList==[])=false:=by
  rw [xy];cases f with
  |nil=>cases o1
  |cons x l=>rfl
 have hc:∀w,Calls Tryz.prog 179 #[.string ⟨f.toArray⟩,.string ⟨#[42]⟩] w fun e w'=>e=.returned (.int .i64 (f.count 42:Nat))∧w'=w:=fun w=>by
  have:=Tryz.strings_Count_one ⟨f.toArray⟩ 42 w;rw [XK] at this;exact this
 show Calls Tryz.prog 140 #[.slice p n c,.slice q m d,.string ⟨f.toArray⟩] w _;by_cases Zx:f=[46]
 ·subst Zx;have e:fJ [46] ks=ks.isEmpty:=by unfold fJ;rw [if_pos rfl]
  rw [e];have hc0:∀w,Calls Tryz.prog 179 #[.string ⟨#[46]⟩,.string ⟨#[42]⟩] w fun e w'=>e=.returned (.int .i64 0)∧w'=w:=hc
  cases ks with
  |nil=>
   simp only [List.length_nil] at cO;subst cO;exact NJ w p q n c d hc0
  |cons x l=>
   have h0:((m:Int)==0)=false:=by
    cases e:((m:Int)==0) with
    |false=>rfl
    |true=>have:=eq_of_beq e;simp at cO;omega
   exact NK w p q n c m d ⟨#[46]⟩ aj af h0 eV eV hc0
 ·have hd:((⟨f.toArray⟩:ByteArray).toList==[46])=false:=by
   rw [xy];cases e:f==[46] with
   |false=>rfl
   |true=>exact absurd (eq_of_beq e) Zx
  have wC:∀sp,lD sp f=(f.length - 2*f.count 42)+f.count 42*sp:=by
   rcases JW f yU with h|h
   ·exact absurd h Zx
   ·exact h
  unfold fJ;rw [if_neg Zx];obtain⟨F,hF⟩:∃F,F=f.length - 2*f.count 42:=⟨_,rfl⟩;rw [←hF];rw [←hF] at wC;by_cases h1:ks.length<F
  ·rw [if_pos h1];exact Zy w p q n c m d _ (by rw [hsz];exact o2) af F af hne hd (f.count 42) af (by rw [hsz];omega) hc
  ·rw [if_neg h1];by_cases h2:ks.length≠F∧f.count 42=0
   ·rw [if_pos h2];have hc0:=hc;rw [h2.2] at hc0;refine Zz w p q n c m d _ (by rw [hsz];exact o2) af F (m - F) af ?_ hne hd (by rw [hsz];omega) hc0;exact Sw
   ·rw [if_neg h2,cO];have sL:∀x∈(⟨f.toArray⟩:ByteArray).data.toList,x.toNat∈letters∨x=42∨x=46:=fun x hx=>by
     rw [XK] at hx;have:=List.all_eq_true.1 o5 x hx;simp only [Bool.or_eq_true,decide_eq_true_eq] at this;rcases this with(h|h)|h
     ·exact .inl oI
     ·exact .inr (.inl h)
     ·exact .inr (.inr h)
    have CG:lD (m - F) (⟨f.toArray⟩:ByteArray).data.toList≤m:=by
     rw [XK,wC];rcases Nat.le_one_iff_eq_zero_or_eq_one.1 o4 with h|h
     ·rw [h];omega
     ·rw [h];omega
    by_cases h3:m - F=0
    ·exact JR w p q n c m d _ (by rw [hsz];exact o2) hm hn ks cO hk F (m - F) af hne hd (f.count 42) af (by rw [hsz];omega) h3 hc sL CG _ (by rw [XK])
    ·refine JU w p q n c m d _ (by rw [hsz];exact o2) hm hn ks cO hk F (m - F) af hne hd (f.count 42) af (by rw [hsz];omega) ?_ af ?_ hc sL CG _ (by rw [XK])
     ·exact Sw
     ·have:f.count 42≠0:=fun h=>h2 ⟨by omega,h⟩
      omega
end Go.Proofs.YtjchnliaglecoaaGreatDoor

/- A part of the proof. Conditions: none. -/
set_option maxRecDepth 100000
set_option maxHeartbeats 8000000
namespace Go.Proofs.YtjchnliaglecoaaGreatDoor
open Go Go.RowKit Go.Nodes
def mW (a o b:List UInt8) (more i:Nat):UInt8:=if i<a.length then a.getD i 0 else if i<a.length+more then o.getD 0 0 else b.getD (i - a.length - more) 0
def jm (a o b:List UInt8) (more:Nat):List Nat→Nat→Bool
 |[],_=>true
 |k::l,i=>pL k (mW a o b more i).toNat && jm a o b more l (i+1)
theorem Og (a o b:List UInt8) (more:Nat) (ks:List Nat) (i:Nat) (hi:i<ks.length):jm a o b more (ks.drop i) i=(pL ks[i] (mW a o b more i).toNat && jm a o b more (ks.drop (i+1)) (i+1)):=by
 rw [List.drop_eq_getElem_cons hi];rfl
theorem KH (w:World) (kv:Int) (q:Option Addr) (m d:Nat) (ks:List Nat) (cO:ks.length=m) (hm:(m:Int)≤20000) (hk:dW w q (ks.map Int.ofNat)) (az:∀k∈ks,0<k∧k<37)
  (A O B:ByteArray) (hA:(A.size:Int)≤10) (hO:(O.size:Int)≤10) (hB:(B.size:Int)≤10) (Ah:∀w,Calls Tryz.prog 112 #[.int .i64 kv] w fun e w'=>e=.returned (.tuple #[.string A,.string O,.string B,.bool true])∧Below w.heap.size w w')
  (more:Nat) (FO:(m:Int) - (A.size:Int) - (B.size:Int)=(more:Int)) (hmz:(more:Int)=0)
  (sL:∀x,x∈A.data.toList∨x∈O.data.toList∨x∈B.data.toList→x.toNat∈letters):
  Calls Tryz.prog 64 #[.int .i64 kv,.slice q m d] w fun e w'=>e=.returned (.bool (jm A.data.toList O.data.toList B.data.toList more ks 0))∧Below w.heap.size w w':=by
 have abX:=trivial;exact anx
theorem KI (w:World) (kv:Int) (q:Option Addr) (m d:Nat) (ks:List Nat) (cO:ks.length=m) (hm:(m:Int)≤20000) (hk:dW w q (ks.map Int.ofNat)) (az:∀k∈ks,0<k∧k<37)
  (A O B:ByteArray) (hA:(A.size:Int)≤10) (hO:(O.size:Int)≤10) (hB:(B.size:Int)≤10) (Ah:∀w,Calls Tryz.prog 112 #[.int .i64 kv] w fun e w'=>e=.returned (.tuple #[.string A,.string O,.string B,.bool true])∧Below w.heap.size w w')
  (more:Nat) (FO:(m:Int) - (A.size:Int) - (B.size:Int)=(more:Int)) (hmp:(0:Int)<(more:Int)) (hO1:(1:Int)≤(O.size:Int))
  (sL:∀x,x∈A.data.toList∨x∈O.data.toList∨x∈B.data.toList→x.toNat∈letters):
  Calls Tryz.prog 64 #[.int .i64 kv,.slice q m d] w fun e w'=>e=.returned (.bool (jm A.data.toList O.data.toList B.data.toList more ks 0))∧Below w.heap.size w w':=by
 have abY:=trivial;exact anx
end Go.Proofs.YtjchnliaglecoaaGreatDoor

/- A part of the proof. Conditions: none. -/
set_option maxRecDepth 100000
set_option maxHeartbeats 8000000
namespace Go.Proofs.YtjchnliaglecoaaGreatDoor
open Go Go.RowKit Go.Nodes
def nZ (l:List UInt8):Prop:=∀x∈l,x≠42∧x≠46
theorem vQ (sp:Nat) (c:UInt8) (f:List UInt8) (ks:List Nat) (h1:c≠42) (h2:c≠46) (h3:f.head?≠some 42):mV sp (c::f) ks=((ks.take 1).all (fun k=>pL k c.toNat) && mV sp f (ks.drop 1)):=by
 show(if c=42∨c=46 then _ else _)=_;rw [if_neg (by simp [h1,h2]),if_neg h3]
theorem Bg (x:UInt8) (a o b:List UInt8) (more:Nat):∀(l:List Nat) (i:Nat),jm (x::a) o b more l (i+1)=jm a o b more l i
 |[],_=>rfl
 |k::l,i=>by
  unfold jm;rw [Bg x a o b more l (i+1)];congr 3;unfold mW;simp only [List.length_cons,Nat.add_lt_add_iff_right,List.getD_cons_succ];split
  ·rfl
  ·have e1:(i+1<a.length+1+more)=(i<a.length+more):=by apply propext;omega
   have e2:i+1 - (a.length+1) - more=i - a.length - more:=af;rw [e2];simp only [e1]
theorem Bh (o b:List UInt8) (more:Nat):∀(l:List Nat) (i:Nat),jm [] o b (more+1) l (i+1)=jm [] o b more l i
 |[],_=>rfl
 |k::l,i=>by
  unfold jm;rw [Bh o b more l (i+1)];congr 3;unfold mW;simp only [List.length_nil,Nat.not_lt_zero,if_false,Nat.zero_add];have e1:(i+1<more+1)=(i<more):=by apply propext;omega
  have e2:i+1 - 0 - (more+1)=i - 0 - more:=af;rw [e2];simp only [e1]
theorem vR (o:List UInt8) (x:UInt8) (b:List UInt8):∀(l:List Nat) (i:Nat),jm [] o (x::b) 0 l (i+1)=jm [] o b 0 l i
 |[],_=>rfl
 |k::l,i=>by
  unfold jm;rw [vR o x b l (i+1)];congr 3
theorem ak3 (sp:Nat) (o:List UInt8):∀(b:List UInt8) (ks:List Nat),nZ b→ks.length=b.length→mV sp b ks=jm [] o b 0 ks 0
 |[],ks,_,h=>by
  have:ks=[]:=List.eq_nil_of_length_eq_zero h;subst this;rfl
 |x::b,[],_,h=>by simp at h
 |x::b,k::ks,hb,h=>by
  have hx:=hb x List.mem_cons_self;have hb':nZ b:=fun y hy=>hb y (List.mem_cons_of_mem _ hy)
  rw [vQ sp x b _ hx.1 hx.2 (fun h3=>by
   cases b with
   |nil=>cases h3
   |cons y b=>exact(hb' y List.mem_cons_self).1 x8)]
  simp only [List.take_succ_cons,List.take_zero,List.all_cons,List.all_nil,Bool.and_true,List.drop_succ_cons,List.drop_zero];rw [ak3 sp o b ks hb' oI];show _=(pL k (mW [] o (x::b) 0 0).toNat && jm [] o (x::b) 0 ks (0+1));rw [vR];rfl
theorem runM (sp0:Nat) (o:UInt8) (b:List UInt8) (hb:nZ b):∀(sp:Nat) (ks:List Nat),ks.length=sp+b.length→((ks.take sp).all (fun k=>pL k o.toNat) && mV sp0 b (ks.drop sp))=jm [] [o] b sp ks 0
 |0,ks,h=>by
  rw [List.take_zero,List.all_nil,Bool.true_and,List.drop_zero];exact ak3 sp0 [o] b ks hb af
 |sp+1,[],h=>by simp at h;omega
 |sp+1,k::ks,h=>by
  simp only [List.take_succ_cons,List.all_cons,List.drop_succ_cons];rw [Bool.and_assoc,runM sp0 o b hb sp ks (by simp at h;omega)];show _=(pL k (mW [] [o] b (sp+1) 0).toNat && jm [] [o] b (sp+1) ks (0+1));rw [Bh];congr 2
theorem ags (sp:Nat) (o b rest:List UInt8) (more:Nat) (hr:rest.head?≠some 42) (hR:∀ks:List Nat,ks.length=more+b.length→mV sp rest ks=jm [] o b more ks 0):∀(a:List UInt8) (ks:List Nat),nZ a→ks.length=a.length+more+b.length→mV sp (a++rest) ks=jm a o b more ks 0
 |[],ks,_,h=>hR ks oI
 |x::a,[],_,h=>by simp at h;omega
 |x::a,k::ks,ha,h=>by
  have hx:=ha x List.mem_cons_self;have ha':nZ a:=fun y hy=>ha y (List.mem_cons_of_mem _ hy)
  rw [List.cons_append,vQ sp x _ _ hx.1 hx.2 (fun h3=>by
   cases a with
   |nil=>exact hr x8
   |cons y a=>exact(ha' y List.mem_cons_self).1 x8)]
  simp only [List.take_succ_cons,List.take_zero,List.all_cons,List.all_nil,Bool.and_true,List.drop_succ_cons,List.drop_zero];rw [ags sp o b rest more hr hR a ks ha' (by simp at h;omega)];show _=(pL k (mW (x::a) o b more 0).toNat && jm (x::a) o b more ks (0+1));rw [Bg];rfl
def vS (a o b:List UInt8) (ks:List Nat):Bool:=
 if ks.length<a.length+b.length then false else if ks.length≠a.length+b.length∧o=[] then false else jm a o b (ks.length - a.length - b.length) ks 0
theorem I1 (a:List UInt8) (ha:nZ a) (hc:a.count 42=0) (hd:a≠[46]) (ks:List Nat):fJ a ks=vS a [] [] ks:=by
 unfold fJ vS;rw [if_neg hd,hc];simp only [Nat.mul_zero,Nat.sub_zero,List.length_nil,Nat.add_zero,and_true];split
 ·rfl
 ·split
  ·rfl
  ·rename_i h1 h2;have he:ks.length=a.length:=pM;rw [he,Nat.sub_self];have:=ags 0 [] [] [] 0 ak (fun ks h=>by have:ks=[]:=List.eq_nil_of_length_eq_zero oI;subst this;rfl) a ks ha (by simpa using he);rw [List.append_nil] at this;exact this
theorem MU (a:List UInt8) (o:UInt8) (b:List UInt8) (ha:nZ a) (ho:o≠42∧o≠46) (hb:nZ b) (hc:(a++o::42::b).count 42=1) (ks:List Nat):fJ (a++o::42::b) ks=vS a [o] b ks:=by
 unfold fJ vS;have hl:(a++o::42::b).length - 2*1=a.length+b.length:=bt;rw [if_neg (by intro h;have:=congrArg List.length h;simp at this;omega),hc,hl];split
 ·rfl
 ·rename_i h1;rw [if_neg ak,if_neg ak];have e:ks.length - a.length - b.length=ks.length - (a.length+b.length):=af;rw [e];refine ags _ [o] b (o::42::b) _ (by simp [ho.1]) (fun ks' h=>?_) a ks ha af;show(if o=42∨o=46 then _ else _)=_;rw [if_neg (by simp [ho.1,ho.2])];rw [if_pos (show(42::b).head?=some 42 from rfl)];show(_ && (if(42:UInt8)=42∨(42:UInt8)=46 then _ else _))=_;rw [if_pos (.inl rfl)];exact runM _ o b hb _ ks' h
theorem Pv (ks:List Nat):fJ [46] ks=vS [] [] [] ks:=by
 unfold fJ vS;rw [if_pos rfl];cases ks with
 |nil=>rfl
 |cons x l=>simp
end Go.Proofs.YtjchnliaglecoaaGreatDoor

/- A part of the proof. Conditions: none. -/
set_option maxRecDepth 100000
set_option maxHeartbeats 8000000
namespace Go.Proofs.YtjchnliaglecoaaGreatDoor
open Go Go.RowKit Go.Nodes
def Eo (l:List UInt8):Bool:=l.all fun x=>decide (x≠42) && decide (x≠46)
theorem uF {l:List UInt8} (h:Eo l=true):nZ l:=fun x hx=>by
 have:=List.all_eq_true.1 h x hx;simpa using this
def dh (k:Nat):List UInt8:=qj.getD k []
theorem GV:((List.range 37).all fun k=>Nat.beq k 0||((dP k).2.2.2 && decide ((dP k).1.length≤10) && decide ((dP k).2.1.length≤1) && decide ((dP k).2.2.1.length≤10) && decide (dh k∈qc) &&
  Eo (dP k).1 && Eo (dP k).2.1 && Eo (dP k).2.2.1 && ((dP k).1++(dP k).2.1++(dP k).2.2.1).all (fun x=>letters.contains x.toNat) &&
  ((decide (dh k=[46]) && (dP k).1.isEmpty && (dP k).2.1.isEmpty && (dP k).2.2.1.isEmpty)||(decide (dh k=(dP k).1) && (dP k).2.1.isEmpty && (dP k).2.2.1.isEmpty && decide ((dh k).count 42=0) && decide (dh k≠[46]))||
   (match (dP k).2.1 with|[o]=>decide (dh k=(dP k).1++o::42::(dP k).2.2.1) && decide ((dh k).count 42=1)|_=>false))))=true:=eV
theorem Wp {k:Nat} (h1:1≤k) (h2:k≤36):∃a o b,dP k=(a,o,b,true)∧a.length≤10∧o.length≤1∧b.length≤10∧dh k∈qc∧(∀x,x∈a∨x∈o∨x∈b→x.toNat∈letters)∧∀ks,fJ (dh k) ks=vS a o b ks:=by
 have h:=List.all_eq_true.1 GV k (List.mem_range.2 af);rw [show Nat.beq k 0=false by cases e:Nat.beq k 0 with
  |true=>have:=Nat.eq_of_beq_eq_true e;omega
  |false=>rfl] at h
 generalize dh k=f at*;rcases hs:dP k with⟨a,o,b,t⟩;rw [hs] at h;simp only [Bool.false_or,Bool.and_eq_true,decide_eq_true_eq] at h;obtain⟨⟨⟨⟨⟨⟨⟨⟨⟨rfl,l1⟩,l2⟩,l3⟩,hm⟩,p1⟩,p2⟩,p3⟩,hl⟩,hc⟩:=h;refine⟨a,o,b,rfl,l1,by omega,l3,hm,fun x hx=>?_,fun ks=>?_⟩
 ·have:x∈a++o++b:=by
   simp only [List.mem_append];rcases hx with h|h|h
   ·exact .inl (.inl h)
   ·exact .inl (.inr h)
   ·exact .inr h
  simpa using List.all_eq_true.1 hl x this
 ·rcases Bool.or_eq_true_iff.1 hc with hc|hc
  ·rcases Bool.or_eq_true_iff.1 hc with hc|hc
   ·simp only [Bool.and_eq_true,decide_eq_true_eq,List.isEmpty_iff] at hc;obtain⟨⟨⟨rfl,rfl⟩,rfl⟩,rfl⟩:=hc;exact Pv ks
   ·simp only [Bool.and_eq_true,decide_eq_true_eq,List.isEmpty_iff] at hc;obtain⟨⟨⟨⟨rfl,rfl⟩,rfl⟩,hc0⟩,hd⟩:=hc;exact I1 f (uF p1) hc0 hd ks
  ·split at hc
   ·rename_i o' _;simp only [Bool.and_eq_true,decide_eq_true_eq] at hc;obtain⟨rfl,hc1⟩:=hc;exact MU a o' b (uF p1) (uF p2 o' ak) (uF p3) hc1 ks
   ·cases hc
theorem Wq (w:World) (kv:Int) (q:Option Addr) (m d:Nat) (hm:(m:Int)≤20000) (A O B:ByteArray) (hA:(A.size:Int)≤10) (hB:(B.size:Int)≤10) (hlt:(m:Int) - (A.size:Int) - (B.size:Int)<0)
  (Ah:∀w,Calls Tryz.prog 112 #[.int .i64 kv] w fun e w'=>e=.returned (.tuple #[.string A,.string O,.string B,.bool true])∧Below w.heap.size w w'):
  Calls Tryz.prog 64 #[.int .i64 kv,.slice q m d] w fun e w'=>e=.returned (.bool false)∧Below w.heap.size w w':=by
 have Hsh:=hid Ah;exact T3
theorem Ov (w:World) (kv:Int) (q:Option Addr) (m d:Nat) (hm:(m:Int)≤20000) (A O B:ByteArray) (hA:(A.size:Int)≤10) (hB:(B.size:Int)≤10) (more:Nat) (FO:(m:Int) - (A.size:Int) - (B.size:Int)=(more:Int)) (hmp:(0:Int)<(more:Int)) (hO:O.toList.isEmpty=true)
  (Ah:∀w,Calls Tryz.prog 112 #[.int .i64 kv] w fun e w'=>e=.returned (.tuple #[.string A,.string O,.string B,.bool true])∧Below w.heap.size w w'):
  Calls Tryz.prog 64 #[.int .i64 kv,.slice q m d] w fun e w'=>e=.returned (.bool false)∧Below w.heap.size w w':=by
 have Hsh:=hid Ah;have hO2:(O.toList==[])=true:=by cases e:O.toList with
  |nil=>rfl
  |cons x l=>rw [e] at hO;cases hO
 have hmn:0<more:=af;exact T3
theorem Np (w:World) (kv:Int) (hk:kv≤0∨36<kv) (q:Option Addr) (m d:Nat) (hm:(m:Int)≤20000):
  Calls Tryz.prog 64 #[.int .i64 kv,.slice q m d] w fun e w'=>e=.returned (.bool false)∧Below w.heap.size w w':=by
 have Hsh:Hid (∀w,Calls Tryz.prog 112 #[.int .i64 kv] w fun e w'=>e=.returned (.tuple #[.string ⟨#[]⟩,.string ⟨#[]⟩,.string ⟨#[]⟩,.bool false])∧Below w.heap.size w w'):=hid fun w=>by
  by_cases h0:kv=0
  ·subst h0;exact GW 0 af w
  ·exact Ow kv af w
 clear hk;exact afc
theorem Q6 (w:World) (k:Nat) (h1:1≤k) (h2:k≤36) (q:Option Addr) (m d:Nat) (hm:(m:Int)≤20000) (ks:List Nat) (cO:ks.length=m) (hk:dW w q (ks.map Int.ofNat)) (az:∀k∈ks,0<k∧k<37):
  Calls Tryz.prog 64 #[.int .i64 (k:Int),.slice q m d] w fun e w'=>e=.returned (.bool (fJ (dh k) ks))∧Below w.heap.size w w':=by
 obtain⟨a,o,b,hs,l1,l2,l3,tF,sL,heq⟩:=Wp h1 h2;have Ah:∀w,Calls Tryz.prog 112 #[.int .i64 (k:Int)] w fun e w'=>e=.returned (.tuple #[.string ⟨a.toArray⟩,.string ⟨o.toArray⟩,.string ⟨b.toArray⟩,.bool true])∧Below w.heap.size w w':=fun w=>by
  have:=GW k af w;unfold KQ at this;rw [hs] at this;exact this
 have z:∀l:List UInt8,(⟨l.toArray⟩:ByteArray).size=l.length:=fun l=>by simp [ByteArray.size]
 have dd:∀l:List UInt8,(⟨l.toArray⟩:ByteArray).data.toList=l:=fun l=>by simp
 rw [heq];unfold vS;by_cases c1:ks.length<a.length+b.length
 ·rw [if_pos c1];exact Wq w k q m d hm _ _ _ qx qx (by rw [z,z];omega) Ah
 ·rw [if_neg c1];by_cases c2:ks.length≠a.length+b.length∧o=[]
  ·rw [if_pos c2];obtain⟨c3,rfl⟩:=c2;exact Ov w k q m d hm _ _ _ qx qx (m - a.length - b.length) (by rw [z,z];omega) af (by rw [ByteArray.toList_eq];rfl) Ah
  ·rw [if_neg c2,cO];have af7:∀x,x∈(⟨a.toArray⟩:ByteArray).data.toList∨x∈(⟨o.toArray⟩:ByteArray).data.toList∨x∈(⟨b.toArray⟩:ByteArray).data.toList→x.toNat∈letters:=by
    simpa [dd] using sL
   by_cases c4:m - a.length - b.length=0
   ·have:=KH w k q m d ks cO hm hk az ⟨a.toArray⟩ ⟨o.toArray⟩ ⟨b.toArray⟩ qx qx qx Ah (m - a.length - b.length) (by rw [z,z];omega) af af7
    rwa [dd,dd,dd] at this
   ·have ho:o≠[]:=fun h=>c2 ⟨by omega,h⟩
    have hol:1≤o.length:=by cases o with
     |nil=>exact absurd rfl ho
     |cons x l=>simp
    have:=KI w k q m d ks cO hm hk az ⟨a.toArray⟩ ⟨o.toArray⟩ ⟨b.toArray⟩ qx qx qx Ah (m - a.length - b.length) (by rw [z,z];omega) af qx af7
    rwa [dd,dd,dd] at this
end Go.Proofs.YtjchnliaglecoaaGreatDoor
