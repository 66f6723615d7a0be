/- A part of the proof. Conditions: none. -/
import Derived.Outline
import Derived.Test.YtbgjanmheagilaaGreatDoorZz
import Derived.Test.YtbgjanmheagilaaGreatDoorLb
import Derived.Test.YtbgjanmheagilaaGreatDoorTs
set_option linter.unusedVariables false
set_option linter.unusedSimpArgs false
set_option maxRecDepth 100000
set_option maxHeartbeats 8000000
namespace Go.Proofs.YtbgjanmheagilaaGreatDoor
open Go Go.RowKit
def fL (sp:Nat):List UInt8→List Nat→Bool
 |[],_=>true
 |c::f,ks=>if c=42∨c=46 then fL sp f ks else
   (ks.take (if f.head?=some 42 then sp else 1)).all (fun k=>iX k c.toNat) && fL sp f (ks.drop (if f.head?=some 42 then sp else 1))
def eN (sp:Nat):List UInt8→Nat
 |[]=>0
 |c::f=>if c=42∨c=46 then eN sp f else(if f.head?=some 42 then sp else 1)+eN sp f
theorem xu (sp:Nat) (f:List UInt8) (i:Nat) (hi:i<f.length) (ks:List Nat):fL sp (f.drop i) ks=if f[i]=42∨f[i]=46 then fL sp (f.drop (i+1)) ks else
   (ks.take (if f[i+1]?=some 42 then sp else 1)).all (fun k=>iX k f[i].toNat) && fL sp (f.drop (i+1)) (ks.drop (if f[i+1]?=some 42 then sp else 1)):=by
 rw [List.drop_eq_getElem_cons hi]
 conv=>lhs;unfold fL
 rw [List.head?_drop]
theorem uk (sp:Nat) (f:List UInt8) (i:Nat) (hi:i<f.length):eN sp (f.drop i)=if f[i]=42∨f[i]=46 then eN sp (f.drop (i+1)) else(if f[i+1]?=some 42 then sp else 1)+eN sp (f.drop (i+1)):=by
 rw [List.drop_eq_getElem_cons hi]
 conv=>lhs;unfold eN
 rw [List.head?_drop]
def zw (w:World) (p q:Option Addr) (n:Nat) (ks:List Nat):Prop:=∀(i k:Nat),ks[i]?=some k→0<k∧k<37∧
 ∃b o bq oq kk:Nat,p=some ⟨b,o,none⟩∧q=some ⟨bq,oq,none⟩∧b<w.heap.size∧bq<w.heap.size∧kk<n∧w.cell? ⟨bq,oq+i,none⟩=some (.int .i64 kk)∧w.cell? ⟨b,o+kk*4,none⟩=some (.int .i64 k)
theorem Ee (w:World) (p q:Option Addr) (n c m d:Nat) (f:ByteArray) (hf:f.size≤10) (hm:m≤20000) (hn:n≤5000) (ks:List Nat) (eM:ks.length=m) (hk:zw w p q n ks)
  (F sp:Nat) (hF:(m:Int)=F+sp) (hne:(f.toList==[])=false) (hd:(f.toList==[46])=false) (st:Nat) (hst:(st:Int)≤5) (hfs:(f.size:Int)=F+2*st) (hsp:sp=0)
  (hc:∀w,Calls Tryz.prog 121 #[.string f,.string ⟨#[42]⟩] w fun e w'=>e=.returned (.int .i64 st)∧w'=w)
  (oC:∀x∈f.data.toList,x.toNat∈letters∨x=42∨x=46) (rV:eN sp f.data.toList≤m) (R:Bool) (hR:fL sp f.data.toList ks=R):
  Calls Tryz.prog 92 #[.slice p n c,.slice q m d,.string f] w fun e w'=>e=bV R∧Below w.heap.size w w':=by
 have Hc:=hid hc;have Hk:=hid hk;have Dr:=hid eM;have Ef:=hid oC;have HR:=hid hR;have KF:=hid rV;have Bx:f.toList.isEmpty=false:=by cases e:f.toList with
  |nil=>rw [e] at hne;cases hne
  |cons x l=>rfl
 have kj:(f.size:Int) - 2*(st:Int)=(F:Int):=aa;have hF2:(m:Int) - (F:Int)=(sp:Int):=aa;have hF3:(F:Int)≤(m:Int):=aa;have wG:(m:Int)≤20000:=aa;have hsm:sp≤m:=aa;have UD:f.data.toList.length=f.size:=ai;have XH:=hid UD;clear hc hk eM oC hR rV hF hfs UD;go_enter Tryz.func92,Tryz.ntmps92;go_wp2_with (first
  |(go_at_call 91;refine(cO _).mono ?_;rintro e w' ⟨rfl,hw⟩;rw [hw];clear hw w')
  |(go_at_call 121;refine(Hc.out _).mono ?_;rintro e w' ⟨rfl,hw⟩;rw [hw];clear hw w'))
 go_loopw [9] (fun av wr=>∃(pos aT:Nat) (g:eo),av=.int .i64 aT∧wr=grow (w.iter f pos) g∧pos≤f.size∧aT≤m∧Hid (fL sp (f.data.toList.drop pos) (ks.drop aT)=R∧aT+eN sp (f.data.toList.drop pos)≤m)) (fun _ wr=>f.size - wr.iterPos w.heap.size)
 case atStart=>exact⟨0,0,_,rfl,(cW _).symm,by omega,by omega,HR.out,by have:=KF.out;simpa using this⟩
 case round=>
  obtain⟨pos,aT,g,rfl,rfl,hp,hat,hR⟩:=hrel;by_cases hlt:pos<f.size
  ·have hpl:pos<f.data.toList.length:=by rw [XH.out];exact hlt
   have rW:=xu sp f.data.toList pos hpl (ks.drop aT);have hnu:=uk sp f.data.toList pos hpl;rw [hR.out.1] at rW;have rX:=hR.out.2;rw [hnu] at rX;have hb:f.data.toList[pos]=f[pos]:=iM;have hx:=Ef.out _ (List.getElem_mem hpl);rw [hb] at rW rX hx;have nJ:(f[pos]).toNat<128:=by
    exact KG
   have hdec:=decode_ascii f pos hlt nJ;have nx:=jL (P:=Tryz.prog) f pos _ (pos+1) hlt Bz aa;have sV:((f[pos]).toNat=42∨(f[pos]).toNat=46)↔(f[pos]=42∨f[pos]=46):=by
    exact KH
   by_cases hcs:f[pos]=42∨f[pos]=46
   ·exact UE
   ·rw [if_neg hcs] at rW rX;have hnc:(f[pos]).toNat≠42∧(f[pos]).toNat≠46:=⟨fun h=>hcs (sV.1 (.inl h)),fun h=>hcs (sV.1 (.inr h))⟩;have AQ:(f[pos]).toNat∈letters:=by
     exact KI
    have BA:f.data.toList[pos+1]?=if h:pos+1<f.size then some f[pos+1] else none:=by
     split
     ·rename_i h;exact KJ
     ·rename_i h;exact List.getElem?_eq_none (by rw [XH.out];omega)
    rw [BA] at rW rX;have hc1:(((f[pos]).toNat:Int)==42)=false:=by
     exact KL
    have hc2:(((f[pos]).toNat:Int)==46)=false:=by
     exact KM
    generalize (f[pos]).toNat=c1 at*;have PI:(pos:Int)+1≤10:=aa;clear hnc sV hcs hdec hx hb hnu hR BA nJ;by_cases A4:pos+1<f.size
    ·rw [dif_pos A4] at rW rX;have A5:(pos:Int)+1<(f.size:Int):=aa;by_cases hs:f[pos+1]=42
     ·rw [hs,if_pos rfl] at rW rX;have hs1:(f[pos+1]).toNat=42:=by rw [hs];rfl
      have UF:=hid rW;have KN:=hid rX;clear rW rX hs;go_wp2;go_loopw [9,66] (fun av cv wr=>∃(j:Nat) (g2:eo),av=.int .i64 ((aT+j:Nat):Int)∧cv=.int .i64 j∧wr=grow (w.iter f (pos+1)) g2∧j≤sp∧Hid ((((ks.drop aT).drop j).take (sp - j)).all (fun k=>iX k c1)=((ks.drop aT).take sp).all (fun k=>iX k c1))) (fun _ cv _=>sp - (intOf cv).toNat)
      case atStart=>exact⟨0,g,by simp,rfl,rfl,by omega,rfl⟩
      case round=>
       obtain⟨j,g2,rfl,rfl,rfl,hj,hJ⟩:=hrel;by_cases hjn:j<sp
       ·omega
       ·exact UG
     ·exact abO
    ·exact abP
  ·exact UH
theorem Eg (w:World) (p q:Option Addr) (n c m d:Nat) (f:ByteArray) (hf:f.size≤10) (hm:m≤20000) (hn:n≤5000) (ks:List Nat) (eM:ks.length=m) (hk:zw w p q n ks)
  (F sp:Nat) (hF:(m:Int)=F+sp) (hne:(f.toList==[])=false) (hd:(f.toList==[46])=false) (st:Nat) (hst:(st:Int)≤5) (hfs:(f.size:Int)=F+2*st) (afA:((sp:Int)==0)=false) (ajV:(0:Int)<(sp:Int)) (ajW:(0:Int)<(st:Int))
  (hc:∀w,Calls Tryz.prog 121 #[.string f,.string ⟨#[42]⟩] w fun e w'=>e=.returned (.int .i64 st)∧w'=w)
  (oC:∀x∈f.data.toList,x.toNat∈letters∨x=42∨x=46) (rV:eN sp f.data.toList≤m) (R:Bool) (hR:fL sp f.data.toList ks=R):
  Calls Tryz.prog 92 #[.slice p n c,.slice q m d,.string f] w fun e w'=>e=bV R∧Below w.heap.size w w':=by
 have Hc:=hid hc;have Hk:=hid hk;have Dr:=hid eM;have Ef:=hid oC;have HR:=hid hR;have KF:=hid rV;have Bx:f.toList.isEmpty=false:=by cases e:f.toList with
  |nil=>rw [e] at hne;cases hne
  |cons x l=>rfl
 have kj:(f.size:Int) - 2*(st:Int)=(F:Int):=aa;have hF2:(m:Int) - (F:Int)=(sp:Int):=aa;have hF3:(F:Int)≤(m:Int):=aa;have wG:(m:Int)≤20000:=aa;have hsm:sp≤m:=aa;have UD:f.data.toList.length=f.size:=ai;have XH:=hid UD;have ajX:decide (0<st)=true:=decide_eq_true aa;clear hc hk eM oC hR rV hF hfs UD;go_enter Tryz.func92,Tryz.ntmps92;go_wp2_with (first
  |(go_at_call 91;refine(cO _).mono ?_;rintro e w' ⟨rfl,hw⟩;rw [hw];clear hw w')
  |(go_at_call 121;refine(Hc.out _).mono ?_;rintro e w' ⟨rfl,hw⟩;rw [hw];clear hw w'))
 go_loopw [9] (fun av wr=>∃(pos aT:Nat) (g:eo),av=.int .i64 aT∧wr=grow (w.iter f pos) g∧pos≤f.size∧aT≤m∧Hid (fL sp (f.data.toList.drop pos) (ks.drop aT)=R∧aT+eN sp (f.data.toList.drop pos)≤m)) (fun _ wr=>f.size - wr.iterPos w.heap.size)
 case atStart=>exact⟨0,0,_,rfl,(cW _).symm,by omega,by omega,HR.out,by have:=KF.out;simpa using this⟩
 case round=>
  obtain⟨pos,aT,g,rfl,rfl,hp,hat,hR⟩:=hrel;by_cases hlt:pos<f.size
  ·have hpl:pos<f.data.toList.length:=by rw [XH.out];exact hlt
   have rW:=xu sp f.data.toList pos hpl (ks.drop aT);have hnu:=uk sp f.data.toList pos hpl;rw [hR.out.1] at rW;have rX:=hR.out.2;rw [hnu] at rX;have hb:f.data.toList[pos]=f[pos]:=iM;have hx:=Ef.out _ (List.getElem_mem hpl);rw [hb] at rW rX hx;have nJ:(f[pos]).toNat<128:=by
    exact KG
   have hdec:=decode_ascii f pos hlt nJ;have nx:=jL (P:=Tryz.prog) f pos _ (pos+1) hlt Bz aa;have sV:((f[pos]).toNat=42∨(f[pos]).toNat=46)↔(f[pos]=42∨f[pos]=46):=by
    exact KH
   by_cases hcs:f[pos]=42∨f[pos]=46
   ·exact UE
   ·rw [if_neg hcs] at rW rX;have hnc:(f[pos]).toNat≠42∧(f[pos]).toNat≠46:=⟨fun h=>hcs (sV.1 (.inl h)),fun h=>hcs (sV.1 (.inr h))⟩;have AQ:(f[pos]).toNat∈letters:=by
     exact KI
    have BA:f.data.toList[pos+1]?=if h:pos+1<f.size then some f[pos+1] else none:=by
     split
     ·rename_i h;exact KJ
     ·rename_i h;exact List.getElem?_eq_none (by rw [XH.out];omega)
    rw [BA] at rW rX;have hc1:(((f[pos]).toNat:Int)==42)=false:=by
     exact KL
    have hc2:(((f[pos]).toNat:Int)==46)=false:=by
     exact KM
    generalize (f[pos]).toNat=c1 at*;have PI:(pos:Int)+1≤10:=aa;clear hnc sV hcs hdec hx hb hnu hR BA nJ;by_cases A4:pos+1<f.size
    ·rw [dif_pos A4] at rW rX;have A5:(pos:Int)+1<(f.size:Int):=aa;by_cases hs:f[pos+1]=42
     ·rw [hs,if_pos rfl] at rW rX;have hs1:(f[pos+1]).toNat=42:=by rw [hs];rfl
      have UF:=hid rW;have KN:=hid rX;clear rW rX hs;go_wp2;go_loopw [9,66] (fun av cv wr=>∃(j:Nat) (g2:eo),av=.int .i64 ((aT+j:Nat):Int)∧cv=.int .i64 j∧wr=grow (w.iter f (pos+1)) g2∧j≤sp∧Hid ((((ks.drop aT).drop j).take (sp - j)).all (fun k=>iX k c1)=((ks.drop aT).take sp).all (fun k=>iX k c1))) (fun _ cv _=>sp - (intOf cv).toNat)
      case atStart=>exact⟨0,g,by simp,rfl,rfl,by omega,rfl⟩
      case round=>
       obtain⟨j,g2,rfl,rfl,rfl,hj,hJ⟩:=hrel;by_cases hjn:j<sp
       ·have haj:aT+j<ks.length:=by rw [Dr.out];have:=KN.out;omega
        have hdj:((ks.drop aT).drop j).take (sp - j)=ks[aT+j]::((ks.drop aT).drop (j+1)).take (sp - (j+1)):=by
         rw [List.drop_drop,List.drop_eq_getElem_cons haj,show sp - j=(sp - (j+1))+1 by omega,List.take_succ_cons,List.drop_drop];rfl
        have hJ2:=hJ.out;rw [hdj,List.all_cons] at hJ2;obtain⟨k0,JJ,b,o,bq,oq,kk,rfl,rfl,hb1,hb2,XI,Dn,P9⟩:=Hk.out (aT+j) ks[aT+j] (List.getElem?_eq_getElem haj);generalize ks[aT+j]=kd at*;have HJ:=hid hJ2;have a0:(0:Int)≤((aT+j:Nat):Int):=aa;have a1:((aT+j:Nat):Int)<(m:Int):=by have:=Dr.out;omega
        have a2:(kk:Int)<(n:Int):=aa;have a3:(j:Int)<(sp:Int):=aa;exact abQ
       ·exact UG
     ·exact abO
    ·exact abP
  ·exact UH
end Go.Proofs.YtbgjanmheagilaaGreatDoor
/- A part of the proof. Conditions: none. -/
set_option maxRecDepth 100000
set_option maxHeartbeats 8000000
namespace Go.Proofs.YtbgjanmheagilaaGreatDoor
open Go Go.RowKit
def bE (f:List UInt8) (ks:List Nat):Bool:=
 if f=[46] then ks.isEmpty else
 if ks.length<f.length - 2*f.count 42 then false else
 if ks.length≠f.length - 2*f.count 42∧f.count 42=0 then false else fL (ks.length - (f.length - 2*f.count 42)) f ks
theorem RO (w:World) (p q:Option Addr) (n c m d:Nat) (f:ByteArray) (hf:f.size≤10) (hm:(m:Int)≤20000) (F:Nat) (hlt:(m:Int) - (F:Int)<0) (hne:(f.toList==[])=false) (hd:(f.toList==[46])=false)
  (st:Nat) (hst:(st:Int)≤5) (hfs:(f.size:Int) - 2*(st:Int)=(F:Int)) (hc:∀w,Calls Tryz.prog 121 #[.string f,.string ⟨#[42]⟩] w fun e w'=>e=.returned (.int .i64 st)∧w'=w):
  Calls Tryz.prog 92 #[.slice p n c,.slice q m d,.string f] w fun e w'=>e=bV false∧Below w.heap.size w w':=by
 exact Nn
theorem RP (w:World) (p q:Option Addr) (n c m d:Nat) (f:ByteArray) (hf:f.size≤10) (hm:(m:Int)≤20000) (F sp:Nat) (hsp:(m:Int) - (F:Int)=(sp:Int)) (afA:((sp:Int)==0)=false) (hne:(f.toList==[])=false) (hd:(f.toList==[46])=false)
  (hfs:(f.size:Int)=(F:Int)) (hc:∀w,Calls Tryz.prog 121 #[.string f,.string ⟨#[42]⟩] w fun e w'=>e=.returned (.int .i64 0)∧w'=w):
  Calls Tryz.prog 92 #[.slice p n c,.slice q m d,.string f] w fun e w'=>e=bV false∧Below w.heap.size w w':=by
 exact Nn
theorem IM (w:World) (p q:Option Addr) (n c m d:Nat) (f:ByteArray) (hf:f.size≤10) (hm:(m:Int)≤20000) (G8:((m:Int)==0)=false) (hne:(f.toList==[])=false) (hd:(f.toList==[46])=true)
  (hc:∀w,Calls Tryz.prog 121 #[.string f,.string ⟨#[42]⟩] w fun e w'=>e=.returned (.int .i64 0)∧w'=w):
  Calls Tryz.prog 92 #[.slice p n c,.slice q m d,.string f] w fun e w'=>e=bV false∧Below w.heap.size w w':=by
 exact Nn
theorem IL (w:World) (p q:Option Addr) (n c d:Nat) (hc:∀w,Calls Tryz.prog 121 #[.string ⟨#[46]⟩,.string ⟨#[42]⟩] w fun e w'=>e=.returned (.int .i64 0)∧w'=w):
  Calls Tryz.prog 92 #[.slice p n c,.slice q 0 d,.string ⟨#[46]⟩] w fun e w'=>e=bV true∧Below w.heap.size w w':=by
 have Hc:=hid hc;have nx:=En (P:=Tryz.prog) ⟨#[46]⟩ 0 46 1 ay cZ aa;have ne:=pL (P:=Tryz.prog) ⟨#[46]⟩ 1 ay;clear hc;go_enter Tryz.func92,Tryz.ntmps92;go_wp2_with (first
  |(go_at_call 91;((with_reducible refine(cO _).mono ?_));rintro e w' ⟨rfl,hw⟩;rw [hw];clear hw w')
  |(go_at_call 121;refine(Hc.out _).mono ?_;rintro e w' ⟨rfl,hw⟩;rw [hw];clear hw w'))
 refine wp_loop_rounds 2 ?_;rw [rounds_succ];go_wp2;rw [rounds_succ];exact Nj
end Go.Proofs.YtbgjanmheagilaaGreatDoor
/- A part of the proof. Conditions: none. -/
set_option maxRecDepth 100000
set_option maxHeartbeats 8000000
namespace Go.Proofs.YtbgjanmheagilaaGreatDoor
open Go Go.RowKit
def mK:List (List UInt8):=kI.tail
theorem EJ:∀f∈mK,f=[46]∨∀sp,eN sp f=(f.length - 2*f.count 42)+f.count 42*sp:=by
 intro f hf;simp only [mK,kI,List.tail_cons,List.mem_cons,List.not_mem_nil,or_false] at hf;rcases hf with rfl|rfl|rfl|rfl|rfl|rfl|rfl|rfl|rfl|rfl|rfl|rfl|rfl|rfl|rfl|rfl|rfl|rfl|rfl|rfl|rfl|rfl|rfl|rfl|rfl|rfl|rfl|rfl|rfl|rfl|rfl|rfl|rfl|rfl|rfl|rfl
 all_goals first
  |(left;rfl)
  |(right;intro sp;simp [eN];done)
  |(right;intro sp;simp [eN,List.count_cons];omega)
theorem MA:(mK.all fun f=> !f.isEmpty && decide (f.length≤10) && decide (2*f.count 42≤f.length) && decide (f.count 42≤1) && f.all (fun x=>letters.contains x.toNat||decide (x=42)||decide (x=46)) && (decide (f=[46])||decide (f.count 46=0)))=true:=by decide+kernel
theorem MB (w:World) (p q:Option Addr) (n c m d:Nat) (f:List UInt8) (qG:f∈mK) (hm:m≤20000) (hn:n≤5000) (ks:List Nat) (eM:ks.length=m) (hk:zw w p q n ks):
  Calls Tryz.prog 92 #[.slice p n c,.slice q m d,str f] w fun e w'=>e=bV (bE f ks)∧Below w.heap.size w w':=by
 have ve:=List.all_eq_true.1 MA f qG;simp only [Bool.and_eq_true,Bool.not_eq_true',decide_eq_true_eq] at ve;obtain⟨⟨⟨⟨⟨o1,o2⟩,o3⟩,o4⟩,o5⟩,o6⟩:=ve;have QD:(⟨f.toArray⟩:ByteArray).data.toList=f:=ai;have zE:(⟨f.toArray⟩:ByteArray).toList=f:=by rw [ByteArray.toList_eq]
 have hsz:(⟨f.toArray⟩:ByteArray).size=f.length:=by simp [ByteArray.size]
 have hne:((⟨f.toArray⟩:ByteArray).toList==[])=false:=by
  rw [zE];cases f with
  |nil=>cases o1
  |cons x l=>rfl
 have hc:∀w,Calls Tryz.prog 121 #[.string ⟨f.toArray⟩,.string ⟨#[42]⟩] w fun e w'=>e=.returned (.int .i64 (f.count 42:Nat))∧w'=w:=fun w=>by
  have:=Tryz.strings_Count_one ⟨f.toArray⟩ 42 w;rw [QD] at this;exact this
 show Calls Tryz.prog 92 #[.slice p n c,.slice q m d,.string ⟨f.toArray⟩] w _;by_cases RN:f=[46]
 ·subst RN;have e:bE [46] ks=ks.isEmpty:=by unfold bE;rw [if_pos rfl]
  rw [e];have hc0:∀w,Calls Tryz.prog 121 #[.string ⟨#[46]⟩,.string ⟨#[42]⟩] w fun e w'=>e=.returned (.int .i64 0)∧w'=w:=hc
  cases ks with
  |nil=>
   simp only [List.length_nil] at eM;subst eM;exact IL w p q n c d hc0
  |cons x l=>
   have h0:((m:Int)==0)=false:=by
    cases e:((m:Int)==0) with
    |false=>rfl
    |true=>have:=eq_of_beq e;simp at eM;omega
   exact IM w p q n c m d ⟨#[46]⟩ ay aa h0 cZ cZ hc0
 ·have hd:((⟨f.toArray⟩:ByteArray).toList==[46])=false:=by
   rw [zE];cases e:f==[46] with
   |false=>rfl
   |true=>exact absurd (eq_of_beq e) RN
  have rV:∀sp,eN sp f=(f.length - 2*f.count 42)+f.count 42*sp:=by
   rcases EJ f qG with h|h
   ·exact absurd h RN
   ·exact h
  unfold bE;rw [if_neg RN];obtain⟨F,hF⟩:∃F,F=f.length - 2*f.count 42:=⟨_,rfl⟩;rw [←hF];rw [←hF] at rV;by_cases h1:ks.length<F
  ·rw [if_pos h1];exact RO w p q n c m d _ (by rw [hsz];exact o2) aa F aa hne hd (f.count 42) aa (by rw [hsz];omega) hc
  ·rw [if_neg h1];by_cases h2:ks.length≠F∧f.count 42=0
   ·rw [if_pos h2];have hc0:=hc;rw [h2.2] at hc0;refine RP w p q n c m d _ (by rw [hsz];exact o2) aa F (m - F) aa ?_ hne hd (by rw [hsz];omega) hc0;exact MC
   ·rw [if_neg h2,eM];have oC:∀x∈(⟨f.toArray⟩:ByteArray).data.toList,x.toNat∈letters∨x=42∨x=46:=fun x hx=>by
     rw [QD] at hx;have:=List.all_eq_true.1 o5 x hx;simp only [Bool.or_eq_true,decide_eq_true_eq] at this;rcases this with(h|h)|h
     ·exact .inl kV
     ·exact .inr (.inl h)
     ·exact .inr (.inr h)
    have Dw:eN (m - F) (⟨f.toArray⟩:ByteArray).data.toList≤m:=by
     rw [QD,rV];rcases Nat.le_one_iff_eq_zero_or_eq_one.1 o4 with h|h
     ·rw [h];omega
     ·rw [h];omega
    by_cases h3:m - F=0
    ·exact Ee w p q n c m d _ (by rw [hsz];exact o2) hm hn ks eM hk F (m - F) aa hne hd (f.count 42) aa (by rw [hsz];omega) h3 hc oC Dw _ (by rw [QD])
    ·refine Eg w p q n c m d _ (by rw [hsz];exact o2) hm hn ks eM hk F (m - F) aa hne hd (f.count 42) aa (by rw [hsz];omega) ?_ aa ?_ hc oC Dw _ (by rw [QD])
     ·exact MC
     ·have:f.count 42≠0:=fun h=>h2 ⟨by omega,h⟩
      omega
end Go.Proofs.YtbgjanmheagilaaGreatDoor
/- A part of the proof. Conditions: none. -/
set_option maxRecDepth 100000
set_option maxHeartbeats 8000000
namespace Go.Proofs.YtbgjanmheagilaaGreatDoor
open Go Go.RowKit Go.Nodes
def jV (a o b:List UInt8) (more i:Nat):UInt8:=if i<a.length then a.getD i 0 else if i<a.length+more then o.getD 0 0 else b.getD (i - a.length - more) 0
def gi (a o b:List UInt8) (more:Nat):List Nat→Nat→Bool
 |[],_=>true
 |k::l,i=>iX k (jV a o b more i).toNat && gi a o b more l (i+1)
theorem Ja (a o b:List UInt8) (more:Nat) (ks:List Nat) (i:Nat) (hi:i<ks.length):gi a o b more (ks.drop i) i=(iX ks[i] (jV a o b more i).toNat && gi a o b more (ks.drop (i+1)) (i+1)):=by
 rw [List.drop_eq_getElem_cons hi];rfl
theorem Fx (w:World) (kv:Int) (q:Option Addr) (m d:Nat) (ks:List Nat) (eM:ks.length=m) (hm:(m:Int)≤20000) (hk:bR w q (ks.map Int.ofNat)) (bh:∀k∈ks,0<k∧k<37)
  (A O B:ByteArray) (hA:(A.size:Int)≤10) (hO:(O.size:Int)≤10) (hB:(B.size:Int)≤10) (yh:∀w,Calls Tryz.prog 68 #[.int .i64 kv] w fun e w'=>e=.returned (.tuple #[.string A,.string O,.string B,.bool true])∧Below w.heap.size w w')
  (more:Nat) (Ct:(m:Int) - (A.size:Int) - (B.size:Int)=(more:Int)) (hmz:(more:Int)=0)
  (oC:∀x,x∈A.data.toList∨x∈O.data.toList∨x∈B.data.toList→x.toNat∈letters):
  Calls Tryz.prog 42 #[.int .i64 kv,.slice q m d] w fun e w'=>e=.returned (.bool (gi A.data.toList O.data.toList B.data.toList more ks 0))∧Below w.heap.size w w':=by
 have TQ:=trivial;exact adN
theorem Fy (w:World) (kv:Int) (q:Option Addr) (m d:Nat) (ks:List Nat) (eM:ks.length=m) (hm:(m:Int)≤20000) (hk:bR w q (ks.map Int.ofNat)) (bh:∀k∈ks,0<k∧k<37)
  (A O B:ByteArray) (hA:(A.size:Int)≤10) (hO:(O.size:Int)≤10) (hB:(B.size:Int)≤10) (yh:∀w,Calls Tryz.prog 68 #[.int .i64 kv] w fun e w'=>e=.returned (.tuple #[.string A,.string O,.string B,.bool true])∧Below w.heap.size w w')
  (more:Nat) (Ct:(m:Int) - (A.size:Int) - (B.size:Int)=(more:Int)) (hmp:(0:Int)<(more:Int)) (hO1:(1:Int)≤(O.size:Int))
  (oC:∀x,x∈A.data.toList∨x∈O.data.toList∨x∈B.data.toList→x.toNat∈letters):
  Calls Tryz.prog 42 #[.int .i64 kv,.slice q m d] w fun e w'=>e=.returned (.bool (gi A.data.toList O.data.toList B.data.toList more ks 0))∧Below w.heap.size w w':=by
 have TR:=trivial;exact adN
end Go.Proofs.YtbgjanmheagilaaGreatDoor
/- A part of the proof. Conditions: none. -/
set_option maxRecDepth 100000
set_option maxHeartbeats 8000000
namespace Go.Proofs.YtbgjanmheagilaaGreatDoor
open Go Go.RowKit Go.Nodes
def kQ (l:List UInt8):Prop:=∀x∈l,x≠42∧x≠46
theorem sL (sp:Nat) (c:UInt8) (f:List UInt8) (ks:List Nat) (h1:c≠42) (h2:c≠46) (h3:f.head?≠some 42):fL sp (c::f) ks=((ks.take 1).all (fun k=>iX k c.toNat) && fL sp f (ks.drop 1)):=by
 show(if c=42∨c=46 then _ else _)=_;rw [if_neg (by simp [h1,h2]),if_neg h3]
theorem yD (x:UInt8) (a o b:List UInt8) (more:Nat):∀(l:List Nat) (i:Nat),gi (x::a) o b more l (i+1)=gi a o b more l i
 |[],_=>rfl
 |k::l,i=>by
  unfold gi;rw [yD x a o b more l (i+1)];congr 3;unfold jV;simp only [List.length_cons,Nat.add_lt_add_iff_right,List.getD_cons_succ];split
  ·rfl
  ·have e1:(i+1<a.length+1+more)=(i<a.length+more):=by apply propext;omega
   have e2:i+1 - (a.length+1) - more=i - a.length - more:=aa;rw [e2];simp only [e1]
theorem yE (o b:List UInt8) (more:Nat):∀(l:List Nat) (i:Nat),gi [] o b (more+1) l (i+1)=gi [] o b more l i
 |[],_=>rfl
 |k::l,i=>by
  unfold gi;rw [yE o b more l (i+1)];congr 3;unfold jV;simp only [List.length_nil,Nat.not_lt_zero,if_false,Nat.zero_add];have e1:(i+1<more+1)=(i<more):=by apply propext;omega
  have e2:i+1 - 0 - (more+1)=i - 0 - more:=aa;rw [e2];simp only [e1]
theorem sM (o:List UInt8) (x:UInt8) (b:List UInt8):∀(l:List Nat) (i:Nat),gi [] o (x::b) 0 l (i+1)=gi [] o b 0 l i
 |[],_=>rfl
 |k::l,i=>by
  unfold gi;rw [sM o x b l (i+1)];congr 3
theorem ad1 (sp:Nat) (o:List UInt8):∀(b:List UInt8) (ks:List Nat),kQ b→ks.length=b.length→fL sp b ks=gi [] o b 0 ks 0
 |[],ks,_,h=>by
  have:ks=[]:=List.eq_nil_of_length_eq_zero h;subst this;rfl
 |x::b,[],_,h=>by simp at h
 |x::b,k::ks,hb,h=>by
  have hx:=hb x List.mem_cons_self;have hb':kQ b:=fun y hy=>hb y (List.mem_cons_of_mem _ hy)
  rw [sL sp x b _ hx.1 hx.2 (fun h3=>by
   cases b with
   |nil=>cases h3
   |cons y b=>exact(hb' y List.mem_cons_self).1 uV)]
  simp only [List.take_succ_cons,List.take_zero,List.all_cons,List.all_nil,Bool.and_true,List.drop_succ_cons,List.drop_zero];rw [ad1 sp o b ks hb' kV];show _=(iX k (jV [] o (x::b) 0 0).toNat && gi [] o (x::b) 0 ks (0+1));rw [sM];rfl
theorem runM (sp0:Nat) (o:UInt8) (b:List UInt8) (hb:kQ b):∀(sp:Nat) (ks:List Nat),ks.length=sp+b.length→((ks.take sp).all (fun k=>iX k o.toNat) && fL sp0 b (ks.drop sp))=gi [] [o] b sp ks 0
 |0,ks,h=>by
  rw [List.take_zero,List.all_nil,Bool.true_and,List.drop_zero];exact ad1 sp0 [o] b ks hb aa
 |sp+1,[],h=>by simp at h;omega
 |sp+1,k::ks,h=>by
  simp only [List.take_succ_cons,List.all_cons,List.drop_succ_cons];rw [Bool.and_assoc,runM sp0 o b hb sp ks (by simp at h;omega)];show _=(iX k (jV [] [o] b (sp+1) 0).toNat && gi [] [o] b (sp+1) ks (0+1));rw [yE];congr 2
theorem aat (sp:Nat) (o b rest:List UInt8) (more:Nat) (hr:rest.head?≠some 42) (hR:∀ks:List Nat,ks.length=more+b.length→fL sp rest ks=gi [] o b more ks 0):∀(a:List UInt8) (ks:List Nat),kQ a→ks.length=a.length+more+b.length→fL sp (a++rest) ks=gi a o b more ks 0
 |[],ks,_,h=>hR ks kV
 |x::a,[],_,h=>by simp at h;omega
 |x::a,k::ks,ha,h=>by
  have hx:=ha x List.mem_cons_self;have ha':kQ a:=fun y hy=>ha y (List.mem_cons_of_mem _ hy)
  rw [List.cons_append,sL sp x _ _ hx.1 hx.2 (fun h3=>by
   cases a with
   |nil=>exact hr uV
   |cons y a=>exact(ha' y List.mem_cons_self).1 uV)]
  simp only [List.take_succ_cons,List.take_zero,List.all_cons,List.all_nil,Bool.and_true,List.drop_succ_cons,List.drop_zero];rw [aat sp o b rest more hr hR a ks ha' (by simp at h;omega)];show _=(iX k (jV (x::a) o b more 0).toNat && gi (x::a) o b more ks (0+1));rw [yD];rfl
def sN (a o b:List UInt8) (ks:List Nat):Bool:=
 if ks.length<a.length+b.length then false else if ks.length≠a.length+b.length∧o=[] then false else gi a o b (ks.length - a.length - b.length) ks 0
theorem Fq (a:List UInt8) (ha:kQ a) (hc:a.count 42=0) (hd:a≠[46]) (ks:List Nat):bE a ks=sN a [] [] ks:=by
 unfold bE sN;rw [if_neg hd,hc];simp only [Nat.mul_zero,Nat.sub_zero,List.length_nil,Nat.add_zero,and_true];split
 ·rfl
 ·split
  ·rfl
  ·rename_i h1 h2;have he:ks.length=a.length:=lS;rw [he,Nat.sub_self];have:=aat 0 [] [] [] 0 ai (fun ks h=>by have:ks=[]:=List.eq_nil_of_length_eq_zero kV;subst this;rfl) a ks ha (by simpa using he);rw [List.append_nil] at this;exact this
theorem Jr (a:List UInt8) (o:UInt8) (b:List UInt8) (ha:kQ a) (ho:o≠42∧o≠46) (hb:kQ b) (hc:(a++o::42::b).count 42=1) (ks:List Nat):bE (a++o::42::b) ks=sN a [o] b ks:=by
 unfold bE sN;have hl:(a++o::42::b).length - 2*1=a.length+b.length:=aV;rw [if_neg (by intro h;have:=congrArg List.length h;simp at this;omega),hc,hl];split
 ·rfl
 ·rename_i h1;rw [if_neg ai,if_neg ai];have e:ks.length - a.length - b.length=ks.length - (a.length+b.length):=aa;rw [e];refine aat _ [o] b (o::42::b) _ (by simp [ho.1]) (fun ks' h=>?_) a ks ha aa;show(if o=42∨o=46 then _ else _)=_;rw [if_neg (by simp [ho.1,ho.2])];rw [if_pos (show(42::b).head?=some 42 from rfl)];show(_ && (if(42:UInt8)=42∨(42:UInt8)=46 then _ else _))=_;rw [if_pos (.inl rfl)];exact runM _ o b hb _ ks' h
theorem Pd (ks:List Nat):bE [46] ks=sN [] [] [] ks:=by
 unfold bE sN;rw [if_pos rfl];cases ks with
 |nil=>rfl
 |cons x l=>simp
end Go.Proofs.YtbgjanmheagilaaGreatDoor
/- A part of the proof. Conditions: none. -/
set_option maxRecDepth 100000
set_option maxHeartbeats 8000000
namespace Go.Proofs.YtbgjanmheagilaaGreatDoor
open Go Go.RowKit Go.Nodes
def AL (l:List UInt8):Bool:=l.all fun x=>decide (x≠42) && decide (x≠46)
theorem qz {l:List UInt8} (h:AL l=true):kQ l:=fun x hx=>by
 have:=List.all_eq_true.1 h x hx;simpa using this
def aI (k:Nat):List UInt8:=kI.getD k []
theorem Dg:((List.range 37).all fun k=>Nat.beq k 0||((cj k).2.2.2 && decide ((cj k).1.length≤10) && decide ((cj k).2.1.length≤1) && decide ((cj k).2.2.1.length≤10) && decide (aI k∈mK) &&
  AL (cj k).1 && AL (cj k).2.1 && AL (cj k).2.2.1 && ((cj k).1++(cj k).2.1++(cj k).2.2.1).all (fun x=>letters.contains x.toNat) &&
  ((decide (aI k=[46]) && (cj k).1.isEmpty && (cj k).2.1.isEmpty && (cj k).2.2.1.isEmpty)||(decide (aI k=(cj k).1) && (cj k).2.1.isEmpty && (cj k).2.2.1.isEmpty && decide ((aI k).count 42=0) && decide (aI k≠[46]))||
   (match (cj k).2.1 with|[o]=>decide (aI k=(cj k).1++o::42::(cj k).2.2.1) && decide ((aI k).count 42=1)|_=>false))))=true:=cZ
theorem Pw {k:Nat} (h1:1≤k) (h2:k≤36):∃a o b,cj k=(a,o,b,true)∧a.length≤10∧o.length≤1∧b.length≤10∧aI k∈mK∧(∀x,x∈a∨x∈o∨x∈b→x.toNat∈letters)∧∀ks,bE (aI k) ks=sN a o b ks:=by
 have h:=List.all_eq_true.1 Dg k (List.mem_range.2 aa);rw [show Nat.beq k 0=false by cases e:Nat.beq k 0 with
  |true=>have:=Nat.eq_of_beq_eq_true e;omega
  |false=>rfl] at h
 generalize aI k=f at*;rcases hs:cj k with⟨a,o,b,t⟩;rw [hs] at h;simp only [Bool.false_or,Bool.and_eq_true,decide_eq_true_eq] at h;obtain⟨⟨⟨⟨⟨⟨⟨⟨⟨rfl,l1⟩,l2⟩,l3⟩,hm⟩,p1⟩,p2⟩,p3⟩,hl⟩,hc⟩:=h;refine⟨a,o,b,rfl,l1,by omega,l3,hm,fun x hx=>?_,fun ks=>?_⟩
 ·have:x∈a++o++b:=by
   simp only [List.mem_append];rcases hx with h|h|h
   ·exact .inl (.inl h)
   ·exact .inl (.inr h)
   ·exact .inr h
  simpa using List.all_eq_true.1 hl x this
 ·rcases Bool.or_eq_true_iff.1 hc with hc|hc
  ·rcases Bool.or_eq_true_iff.1 hc with hc|hc
   ·simp only [Bool.and_eq_true,decide_eq_true_eq,List.isEmpty_iff] at hc;obtain⟨⟨⟨rfl,rfl⟩,rfl⟩,rfl⟩:=hc;exact Pd ks
   ·simp only [Bool.and_eq_true,decide_eq_true_eq,List.isEmpty_iff] at hc;obtain⟨⟨⟨⟨rfl,rfl⟩,rfl⟩,hc0⟩,hd⟩:=hc;exact Fq f (qz p1) hc0 hd ks
  ·split at hc
   ·rename_i o' _;simp only [Bool.and_eq_true,decide_eq_true_eq] at hc;obtain⟨rfl,hc1⟩:=hc;exact Jr a o' b (qz p1) (qz p2 o' ai) (qz p3) hc1 ks
   ·cases hc
theorem Px (w:World) (kv:Int) (q:Option Addr) (m d:Nat) (hm:(m:Int)≤20000) (A O B:ByteArray) (hA:(A.size:Int)≤10) (hB:(B.size:Int)≤10) (hlt:(m:Int) - (A.size:Int) - (B.size:Int)<0)
  (yh:∀w,Calls Tryz.prog 68 #[.int .i64 kv] w fun e w'=>e=.returned (.tuple #[.string A,.string O,.string B,.bool true])∧Below w.heap.size w w'):
  Calls Tryz.prog 42 #[.int .i64 kv,.slice q m d] w fun e w'=>e=.returned (.bool false)∧Below w.heap.size w w':=by
 have Hsh:=hid yh;exact Wy
theorem JG (w:World) (kv:Int) (q:Option Addr) (m d:Nat) (hm:(m:Int)≤20000) (A O B:ByteArray) (hA:(A.size:Int)≤10) (hB:(B.size:Int)≤10) (more:Nat) (Ct:(m:Int) - (A.size:Int) - (B.size:Int)=(more:Int)) (hmp:(0:Int)<(more:Int)) (hO:O.toList.isEmpty=true)
  (yh:∀w,Calls Tryz.prog 68 #[.int .i64 kv] w fun e w'=>e=.returned (.tuple #[.string A,.string O,.string B,.bool true])∧Below w.heap.size w w'):
  Calls Tryz.prog 42 #[.int .i64 kv,.slice q m d] w fun e w'=>e=.returned (.bool false)∧Below w.heap.size w w':=by
 have Hsh:=hid yh;have hO2:(O.toList==[])=true:=by cases e:O.toList with
  |nil=>rfl
  |cons x l=>rw [e] at hO;cases hO
 have hmn:0<more:=aa;exact Wy
theorem IQ (w:World) (kv:Int) (hk:kv≤0∨36<kv) (q:Option Addr) (m d:Nat) (hm:(m:Int)≤20000):
  Calls Tryz.prog 42 #[.int .i64 kv,.slice q m d] w fun e w'=>e=.returned (.bool false)∧Below w.heap.size w w':=by
 have Hsh:Hid (∀w,Calls Tryz.prog 68 #[.int .i64 kv] w fun e w'=>e=.returned (.tuple #[.string ⟨#[]⟩,.string ⟨#[]⟩,.string ⟨#[]⟩,.bool false])∧Below w.heap.size w w'):=hid fun w=>by
  by_cases h0:kv=0
  ·subst h0;exact C4 0 aa w
  ·exact Jy kv aa w
 clear hk;exact Wz
theorem MJ (w:World) (k:Nat) (h1:1≤k) (h2:k≤36) (q:Option Addr) (m d:Nat) (hm:(m:Int)≤20000) (ks:List Nat) (eM:ks.length=m) (hk:bR w q (ks.map Int.ofNat)) (bh:∀k∈ks,0<k∧k<37):
  Calls Tryz.prog 42 #[.int .i64 (k:Int),.slice q m d] w fun e w'=>e=.returned (.bool (bE (aI k) ks))∧Below w.heap.size w w':=by
 obtain⟨a,o,b,hs,l1,l2,l3,wG,oC,heq⟩:=Pw h1 h2;have yh:∀w,Calls Tryz.prog 68 #[.int .i64 (k:Int)] w fun e w'=>e=.returned (.tuple #[.string ⟨a.toArray⟩,.string ⟨o.toArray⟩,.string ⟨b.toArray⟩,.bool true])∧Below w.heap.size w w':=fun w=>by
  have:=C4 k aa w;unfold EG at this;rw [hs] at this;exact this
 have z:∀l:List UInt8,(⟨l.toArray⟩:ByteArray).size=l.length:=fun l=>by simp [ByteArray.size]
 have dd:∀l:List UInt8,(⟨l.toArray⟩:ByteArray).data.toList=l:=fun l=>by simp
 rw [heq];unfold sN;by_cases c1:ks.length<a.length+b.length
 ·rw [if_pos c1];exact Px w k q m d hm _ _ _ mP mP (by rw [z,z];omega) yh
 ·rw [if_neg c1];by_cases c2:ks.length≠a.length+b.length∧o=[]
  ·rw [if_pos c2];obtain⟨c3,rfl⟩:=c2;exact JG w k q m d hm _ _ _ mP mP (m - a.length - b.length) (by rw [z,z];omega) aa (by rw [ByteArray.toList_eq];rfl) yh
  ·rw [if_neg c2,eM];have Xn:∀x,x∈(⟨a.toArray⟩:ByteArray).data.toList∨x∈(⟨o.toArray⟩:ByteArray).data.toList∨x∈(⟨b.toArray⟩:ByteArray).data.toList→x.toNat∈letters:=by
    simpa [dd] using oC
   by_cases c4:m - a.length - b.length=0
   ·have:=Fx w k q m d ks eM hm hk bh ⟨a.toArray⟩ ⟨o.toArray⟩ ⟨b.toArray⟩ mP mP mP yh (m - a.length - b.length) (by rw [z,z];omega) aa Xn
    rwa [dd,dd,dd] at this
   ·have ho:o≠[]:=fun h=>c2 ⟨by omega,h⟩
    have W9:1≤o.length:=by cases o with
     |nil=>exact absurd rfl ho
     |cons x l=>simp
    have:=Fy w k q m d ks eM hm hk bh ⟨a.toArray⟩ ⟨o.toArray⟩ ⟨b.toArray⟩ mP mP mP yh (m - a.length - b.length) (by rw [z,z];omega) aa mP Xn
    rwa [dd,dd,dd] at this
end Go.Proofs.YtbgjanmheagilaaGreatDoor