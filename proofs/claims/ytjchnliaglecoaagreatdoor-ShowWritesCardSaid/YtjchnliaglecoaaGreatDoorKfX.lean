/- A part of the proof. Conditions: none. -/
import Derived.Outline
import Derived.Test.YtjchnliaglecoaaGreatDoorZz
import Derived.Test.YtjchnliaglecoaaGreatDoorLbX
import Derived.Test.YtjchnliaglecoaaGreatDoorTs
set_option linter.unusedVariables false
set_option linter.unusedSimpArgs false
set_option maxRecDepth 100000
set_option maxHeartbeats 8000000
namespace Go.Proofs.YtjchnliaglecoaaGreatDoor
open Go Go.RowKit
def jM (sp:Nat):List UInt8→List Nat→Bool
 |[],_=>true
 |c::f,ks=>if c=42∨c=46 then jM sp f ks else
   (ks.take (if f.head?=some 42 then sp else 1)).all (fun k=>nG k c.toNat) && jM sp f (ks.drop (if f.head?=some 42 then sp else 1))
def ja (sp:Nat):List UInt8→Nat
 |[]=>0
 |c::f=>if c=42∨c=46 then ja sp f else(if f.head?=some 42 then sp else 1)+ja sp f
theorem xN (sp:Nat) (f:List UInt8) (i:Nat) (hi:i<f.length) (ks:List Nat):jM sp (f.drop i) ks=if f[i]=42∨f[i]=46 then jM sp (f.drop (i+1)) ks else
   (ks.take (if f[i+1]?=some 42 then sp else 1)).all (fun k=>nG k f[i].toNat) && jM sp (f.drop (i+1)) (ks.drop (if f[i+1]?=some 42 then sp else 1)):=by
 rw [List.drop_eq_getElem_cons hi]
 conv=>lhs;unfold jM
 rw [List.head?_drop]
theorem uY (sp:Nat) (f:List UInt8) (i:Nat) (hi:i<f.length):ja sp (f.drop i)=if f[i]=42∨f[i]=46 then ja sp (f.drop (i+1)) else(if f[i+1]?=some 42 then sp else 1)+ja sp (f.drop (i+1)):=by
 rw [List.drop_eq_getElem_cons hi]
 conv=>lhs;unfold ja
 rw [List.head?_drop]
def zA (w:World) (p q:Option Addr) (n:Nat) (ks:List Nat):Prop:=∀(i k:Nat),ks[i]?=some k→0<k∧k<37∧
 ∃b o bq oq kk:Nat,p=some ⟨b,o,none⟩∧q=some ⟨bq,oq,none⟩∧b<w.heap.size∧bq<w.heap.size∧kk<n∧w.cell? ⟨bq,oq+i,none⟩=some (.int .i64 kk)∧w.cell? ⟨b,o+kk*4,none⟩=some (.int .i64 k)
theorem D1 (w:World) (p q:Option Addr) (n c m d:Nat) (f:ByteArray) (hf:f.size≤10) (hm:m≤20000) (hn:n≤5000) (ks:List Nat) (gq:ks.length=m) (hk:zA w p q n ks)
  (F sp:Nat) (hF:(m:Int)=F+sp) (hne:(f.toList==[])=false) (hd:(f.toList==[46])=false) (st:Nat) (hst:(st:Int)≤5) (hfs:(f.size:Int)=F+2*st) (hsp:sp=0)
  (hc:∀w,Calls Tryz.prog 179 #[.string f,.string ⟨#[42]⟩] w fun e w'=>e=.returned (.int .i64 st)∧w'=w)
  (oQ:∀x∈f.data.toList,x.toNat∈letters∨x=42∨x=46) (sr:ja sp f.data.toList≤m) (R:Bool) (hR:jM sp f.data.toList ks=R):
  Calls Tryz.prog 140 #[.slice p n c,.slice q m d,.string f] w fun e w'=>e=cP R∧Below w.heap.size w w':=by
 have Hc:=hid hc;have Hk:=hid hk;have Cz:=hid gq;have D2:=hid oQ;have HR:=hid hR;have MO:=hid sr;have BF:f.toList.isEmpty=false:=by cases e:f.toList with
  |nil=>rw [e] at hne;cases hne
  |cons x l=>rfl
 have lU:(f.size:Int) - 2*(st:Int)=(F:Int):=aa;have hF2:(m:Int) - (F:Int)=(sp:Int):=aa;have hF3:(F:Int)≤(m:Int):=aa;have yJ:(m:Int)≤20000:=aa;have hsm:sp≤m:=aa;have hfl:f.data.toList.length=f.size:=ak;have Hfl:=hid hfl;clear hc hk gq oQ hR sr hF hfs hfl;go_enter Tryz.func140,Tryz.ntmps140;go_wp2_with (first
  |(go_at_call 139;refine(dU _).mono ?_;rintro e w' ⟨rfl,hw⟩;rw [hw];clear hw w')
  |(go_at_call 179;refine(Hc.out _).mono ?_;rintro e w' ⟨rfl,hw⟩;rw [hw];clear hw w'))
 go_loopw [9] (fun av wr=>∃(pos bE:Nat) (g:fk),av=.int .i64 bE∧wr=grow (w.iter f pos) g∧pos≤f.size∧bE≤m∧Hid (jM sp (f.data.toList.drop pos) (ks.drop bE)=R∧bE+ja sp (f.data.toList.drop pos)≤m)) (fun _ wr=>f.size - wr.iterPos w.heap.size)
 case atStart=>exact⟨0,0,_,rfl,(er _).symm,by omega,by omega,HR.out,by have:=MO.out;simpa using this⟩
 case round=>
  obtain⟨pos,bE,g,rfl,rfl,hp,hat,hR⟩:=hrel;by_cases hlt:pos<f.size
  ·have hpl:pos<f.data.toList.length:=by rw [Hfl.out];exact hlt
   have su:=xN sp f.data.toList pos hpl (ks.drop bE);have hnu:=uY sp f.data.toList pos hpl;rw [hR.out.1] at su;have sw:=hR.out.2;rw [hnu] at sw;have hb:f.data.toList[pos]=f[pos]:=gX;have hx:=D2.out _ (List.getElem_mem hpl);rw [hb] at su sw hx;have nH:(f[pos]).toNat<128:=by
    exact MP
   have hdec:=decode_ascii f pos hlt nH;have nx:=jO (P:=Tryz.prog) f pos _ (pos+1) hlt AW aa;have zh:((f[pos]).toNat=42∨(f[pos]).toNat=46)↔(f[pos]=42∨f[pos]=46):=by
    exact MQ
   by_cases hcs:f[pos]=42∨f[pos]=46
   ·exact Ys
   ·rw [if_neg hcs] at su sw;have hnc:(f[pos]).toNat≠42∧(f[pos]).toNat≠46:=⟨fun h=>hcs (zh.1 (.inl h)),fun h=>hcs (zh.1 (.inr h))⟩;have CN:(f[pos]).toNat∈letters:=by
     exact MR
    have BG:f.data.toList[pos+1]?=if h:pos+1<f.size then some f[pos+1] else none:=by
     split
     ·rename_i h;exact MS
     ·rename_i h;exact List.getElem?_eq_none (by rw [Hfl.out];omega)
    rw [BG] at su sw;have hc1:(((f[pos]).toNat:Int)==42)=false:=by
     exact MT
    have hc2:(((f[pos]).toNat:Int)==46)=false:=by
     exact MU
    generalize (f[pos]).toNat=c1 at*;have hp1:(pos:Int)+1≤10:=aa;clear hnc zh hcs hdec hx hb hnu hR BG nH;by_cases xC:pos+1<f.size
    ·rw [dif_pos xC] at su sw;have yZ:(pos:Int)+1<(f.size:Int):=aa;by_cases hs:f[pos+1]=42
     ·rw [hs,if_pos rfl] at su sw;have hs1:(f[pos+1]).toNat=42:=by rw [hs];rfl
      have Yt:=hid su;have MV:=hid sw;clear su sw hs;go_wp2;go_loopw [9,66] (fun av cv wr=>∃(j:Nat) (g2:fk),av=.int .i64 ((bE+j:Nat):Int)∧cv=.int .i64 j∧wr=grow (w.iter f (pos+1)) g2∧j≤sp∧Hid ((((ks.drop bE).drop j).take (sp - j)).all (fun k=>nG k c1)=((ks.drop bE).take sp).all (fun k=>nG k c1))) (fun _ cv _=>sp - (intOf cv).toNat)
      case atStart=>exact⟨0,g,by simp,rfl,rfl,by omega,rfl⟩
      case round=>
       obtain⟨j,g2,rfl,rfl,rfl,hj,hJ⟩:=hrel;by_cases hjn:j<sp
       ·omega
       ·exact Yu
     ·exact agB
    ·exact agC
  ·exact Yv
theorem D3 (w:World) (p q:Option Addr) (n c m d:Nat) (f:ByteArray) (hf:f.size≤10) (hm:m≤20000) (hn:n≤5000) (ks:List Nat) (gq:ks.length=m) (hk:zA w p q n ks)
  (F sp:Nat) (hF:(m:Int)=F+sp) (hne:(f.toList==[])=false) (hd:(f.toList==[46])=false) (st:Nat) (hst:(st:Int)≤5) (hfs:(f.size:Int)=F+2*st) (ajP:((sp:Int)==0)=false) (am4:(0:Int)<(sp:Int)) (am5:(0:Int)<(st:Int))
  (hc:∀w,Calls Tryz.prog 179 #[.string f,.string ⟨#[42]⟩] w fun e w'=>e=.returned (.int .i64 st)∧w'=w)
  (oQ:∀x∈f.data.toList,x.toNat∈letters∨x=42∨x=46) (sr:ja sp f.data.toList≤m) (R:Bool) (hR:jM sp f.data.toList ks=R):
  Calls Tryz.prog 140 #[.slice p n c,.slice q m d,.string f] w fun e w'=>e=cP R∧Below w.heap.size w w':=by
 have Hc:=hid hc;have Hk:=hid hk;have Cz:=hid gq;have D2:=hid oQ;have HR:=hid hR;have MO:=hid sr;have BF:f.toList.isEmpty=false:=by cases e:f.toList with
  |nil=>rw [e] at hne;cases hne
  |cons x l=>rfl
 have lU:(f.size:Int) - 2*(st:Int)=(F:Int):=aa;have hF2:(m:Int) - (F:Int)=(sp:Int):=aa;have hF3:(F:Int)≤(m:Int):=aa;have yJ:(m:Int)≤20000:=aa;have hsm:sp≤m:=aa;have hfl:f.data.toList.length=f.size:=ak;have Hfl:=hid hfl;have am6:decide (0<st)=true:=decide_eq_true aa;clear hc hk gq oQ hR sr hF hfs hfl;go_enter Tryz.func140,Tryz.ntmps140;go_wp2_with (first
  |(go_at_call 139;refine(dU _).mono ?_;rintro e w' ⟨rfl,hw⟩;rw [hw];clear hw w')
  |(go_at_call 179;refine(Hc.out _).mono ?_;rintro e w' ⟨rfl,hw⟩;rw [hw];clear hw w'))
 go_loopw [9] (fun av wr=>∃(pos bE:Nat) (g:fk),av=.int .i64 bE∧wr=grow (w.iter f pos) g∧pos≤f.size∧bE≤m∧Hid (jM sp (f.data.toList.drop pos) (ks.drop bE)=R∧bE+ja sp (f.data.toList.drop pos)≤m)) (fun _ wr=>f.size - wr.iterPos w.heap.size)
 case atStart=>exact⟨0,0,_,rfl,(er _).symm,by omega,by omega,HR.out,by have:=MO.out;simpa using this⟩
 case round=>
  obtain⟨pos,bE,g,rfl,rfl,hp,hat,hR⟩:=hrel;by_cases hlt:pos<f.size
  ·have hpl:pos<f.data.toList.length:=by rw [Hfl.out];exact hlt
   have su:=xN sp f.data.toList pos hpl (ks.drop bE);have hnu:=uY sp f.data.toList pos hpl;rw [hR.out.1] at su;have sw:=hR.out.2;rw [hnu] at sw;have hb:f.data.toList[pos]=f[pos]:=gX;have hx:=D2.out _ (List.getElem_mem hpl);rw [hb] at su sw hx;have nH:(f[pos]).toNat<128:=by
    exact MP
   have hdec:=decode_ascii f pos hlt nH;have nx:=jO (P:=Tryz.prog) f pos _ (pos+1) hlt AW aa;have zh:((f[pos]).toNat=42∨(f[pos]).toNat=46)↔(f[pos]=42∨f[pos]=46):=by
    exact MQ
   by_cases hcs:f[pos]=42∨f[pos]=46
   ·exact Ys
   ·rw [if_neg hcs] at su sw;have hnc:(f[pos]).toNat≠42∧(f[pos]).toNat≠46:=⟨fun h=>hcs (zh.1 (.inl h)),fun h=>hcs (zh.1 (.inr h))⟩;have CN:(f[pos]).toNat∈letters:=by
     exact MR
    have BG:f.data.toList[pos+1]?=if h:pos+1<f.size then some f[pos+1] else none:=by
     split
     ·rename_i h;exact MS
     ·rename_i h;exact List.getElem?_eq_none (by rw [Hfl.out];omega)
    rw [BG] at su sw;have hc1:(((f[pos]).toNat:Int)==42)=false:=by
     exact MT
    have hc2:(((f[pos]).toNat:Int)==46)=false:=by
     exact MU
    generalize (f[pos]).toNat=c1 at*;have hp1:(pos:Int)+1≤10:=aa;clear hnc zh hcs hdec hx hb hnu hR BG nH;by_cases xC:pos+1<f.size
    ·rw [dif_pos xC] at su sw;have yZ:(pos:Int)+1<(f.size:Int):=aa;by_cases hs:f[pos+1]=42
     ·rw [hs,if_pos rfl] at su sw;have hs1:(f[pos+1]).toNat=42:=by rw [hs];rfl
      have Yt:=hid su;have MV:=hid sw;clear su sw hs;go_wp2;go_loopw [9,66] (fun av cv wr=>∃(j:Nat) (g2:fk),av=.int .i64 ((bE+j:Nat):Int)∧cv=.int .i64 j∧wr=grow (w.iter f (pos+1)) g2∧j≤sp∧Hid ((((ks.drop bE).drop j).take (sp - j)).all (fun k=>nG k c1)=((ks.drop bE).take sp).all (fun k=>nG k c1))) (fun _ cv _=>sp - (intOf cv).toNat)
      case atStart=>exact⟨0,g,by simp,rfl,rfl,by omega,rfl⟩
      case round=>
       obtain⟨j,g2,rfl,rfl,rfl,hj,hJ⟩:=hrel;by_cases hjn:j<sp
       ·have haj:bE+j<ks.length:=by rw [Cz.out];have:=MV.out;omega
        have hdj:((ks.drop bE).drop j).take (sp - j)=ks[bE+j]::((ks.drop bE).drop (j+1)).take (sp - (j+1)):=by
         rw [List.drop_drop,List.drop_eq_getElem_cons haj,show sp - j=(sp - (j+1))+1 by omega,List.take_succ_cons,List.drop_drop];rfl
        have hJ2:=hJ.out;rw [hdj,List.all_cons] at hJ2;obtain⟨k0,yU,b,o,bq,oq,kk,rfl,rfl,hb1,hb2,hkn,iq,BH⟩:=Hk.out (bE+j) ks[bE+j] (List.getElem?_eq_getElem haj);generalize ks[bE+j]=kd at*;have HJ:=hid hJ2;have a0:(0:Int)≤((bE+j:Nat):Int):=aa;have a1:((bE+j:Nat):Int)<(m:Int):=by have:=Cz.out;omega
        have a2:(kk:Int)<(n:Int):=aa;have a3:(j:Int)<(sp:Int):=aa;exact agD
       ·exact Yu
     ·exact agB
    ·exact agC
  ·exact Yv
end Go.Proofs.YtjchnliaglecoaaGreatDoor
/- A part of the proof. Conditions: none. -/
set_option maxRecDepth 100000
set_option maxHeartbeats 8000000
namespace Go.Proofs.YtjchnliaglecoaaGreatDoor
open Go Go.RowKit
def ep (f:List UInt8) (ks:List Nat):Bool:=
 if f=[46] then ks.isEmpty else
 if ks.length<f.length - 2*f.count 42 then false else
 if ks.length≠f.length - 2*f.count 42∧f.count 42=0 then false else jM (ks.length - (f.length - 2*f.count 42)) f ks
theorem Ti (w:World) (p q:Option Addr) (n c m d:Nat) (f:ByteArray) (hf:f.size≤10) (hm:(m:Int)≤20000) (F:Nat) (hlt:(m:Int) - (F:Int)<0) (hne:(f.toList==[])=false) (hd:(f.toList==[46])=false)
  (st:Nat) (hst:(st:Int)≤5) (hfs:(f.size:Int) - 2*(st:Int)=(F:Int)) (hc:∀w,Calls Tryz.prog 179 #[.string f,.string ⟨#[42]⟩] w fun e w'=>e=.returned (.int .i64 st)∧w'=w):
  Calls Tryz.prog 140 #[.slice p n c,.slice q m d,.string f] w fun e w'=>e=cP false∧Below w.heap.size w w':=by
 exact NA
theorem Tj (w:World) (p q:Option Addr) (n c m d:Nat) (f:ByteArray) (hf:f.size≤10) (hm:(m:Int)≤20000) (F sp:Nat) (hsp:(m:Int) - (F:Int)=(sp:Int)) (ajP:((sp:Int)==0)=false) (hne:(f.toList==[])=false) (hd:(f.toList==[46])=false)
  (hfs:(f.size:Int)=(F:Int)) (hc:∀w,Calls Tryz.prog 179 #[.string f,.string ⟨#[42]⟩] w fun e w'=>e=.returned (.int .i64 0)∧w'=w):
  Calls Tryz.prog 140 #[.slice p n c,.slice q m d,.string f] w fun e w'=>e=cP false∧Below w.heap.size w w':=by
 exact NA
theorem HV (w:World) (p q:Option Addr) (n c m d:Nat) (f:ByteArray) (hf:f.size≤10) (hm:(m:Int)≤20000) (Ks:((m:Int)==0)=false) (hne:(f.toList==[])=false) (hd:(f.toList==[46])=true)
  (hc:∀w,Calls Tryz.prog 179 #[.string f,.string ⟨#[42]⟩] w fun e w'=>e=.returned (.int .i64 0)∧w'=w):
  Calls Tryz.prog 140 #[.slice p n c,.slice q m d,.string f] w fun e w'=>e=cP false∧Below w.heap.size w w':=by
 exact NA
theorem HE (w:World) (p q:Option Addr) (n c d:Nat) (hc:∀w,Calls Tryz.prog 179 #[.string ⟨#[46]⟩,.string ⟨#[42]⟩] w fun e w'=>e=.returned (.int .i64 0)∧w'=w):
  Calls Tryz.prog 140 #[.slice p n c,.slice q 0 d,.string ⟨#[46]⟩] w fun e w'=>e=cP true∧Below w.heap.size w w':=by
 have Hc:=hid hc;have nx:=Eg (P:=Tryz.prog) ⟨#[46]⟩ 0 46 1 ai ew aa;have ne:=pU (P:=Tryz.prog) ⟨#[46]⟩ 1 ai;clear hc;go_enter Tryz.func140,Tryz.ntmps140;go_wp2_with (first
  |(go_at_call 139;((with_reducible refine(dU _).mono ?_));rintro e w' ⟨rfl,hw⟩;rw [hw];clear hw w')
  |(go_at_call 179;refine(Hc.out _).mono ?_;rintro e w' ⟨rfl,hw⟩;rw [hw];clear hw w'))
 refine wp_loop_rounds 2 ?_;rw [rounds_succ];go_wp2;rw [rounds_succ];exact Nb
end Go.Proofs.YtjchnliaglecoaaGreatDoor
/- A part of the proof. Conditions: none. -/
set_option maxRecDepth 100000
set_option maxHeartbeats 8000000
namespace Go.Proofs.YtjchnliaglecoaaGreatDoor
open Go Go.RowKit
def mH:List (List UInt8):=mM.tail
theorem D5:∀f∈mH,f=[46]∨∀sp,ja sp f=(f.length - 2*f.count 42)+f.count 42*sp:=by
 intro f hf;simp only [mH,mM,List.tail_cons,List.mem_cons,List.not_mem_nil,or_false] at hf;rcases hf with rfl|rfl|rfl|rfl|rfl|rfl|rfl|rfl|rfl|rfl|rfl|rfl|rfl|rfl|rfl|rfl|rfl|rfl|rfl|rfl|rfl|rfl|rfl|rfl|rfl|rfl|rfl|rfl|rfl|rfl|rfl|rfl|rfl|rfl|rfl|rfl
 all_goals first
  |(left;rfl)
  |(right;intro sp;simp [ja];done)
  |(right;intro sp;simp [ja,List.count_cons];omega)
theorem MX:(mH.all fun f=> !f.isEmpty && decide (f.length≤10) && decide (2*f.count 42≤f.length) && decide (f.count 42≤1) && f.all (fun x=>letters.contains x.toNat||decide (x=42)||decide (x=46)) && (decide (f=[46])||decide (f.count 46=0)))=true:=by decide+kernel
theorem Mr (w:World) (p q:Option Addr) (n c m d:Nat) (f:List UInt8) (zK:f∈mH) (hm:m≤20000) (hn:n≤5000) (ks:List Nat) (gq:ks.length=m) (hk:zA w p q n ks):
  Calls Tryz.prog 140 #[.slice p n c,.slice q m d,str f] w fun e w'=>e=cP (ep f ks)∧Below w.heap.size w w':=by
 have qU:=List.all_eq_true.1 MX f zK;simp only [Bool.and_eq_true,Bool.not_eq_true',decide_eq_true_eq] at qU;obtain⟨⟨⟨⟨⟨o1,o2⟩,o3⟩,o4⟩,o5⟩,o6⟩:=qU;have QE:(⟨f.toArray⟩:ByteArray).data.toList=f:=ak;have iM:(⟨f.toArray⟩:ByteArray).toList=f:=by rw [ByteArray.toList_eq]
 have hsz:(⟨f.toArray⟩:ByteArray).size=f.length:=by simp [ByteArray.size]
 have hne:((⟨f.toArray⟩:ByteArray).toList==[])=false:=by
  rw [iM];cases f with
  |nil=>cases o1
  |cons x l=>rfl
 have hc:∀w,Calls Tryz.prog 179 #[.string ⟨f.toArray⟩,.string ⟨#[42]⟩] w fun e w'=>e=.returned (.int .i64 (f.count 42:Nat))∧w'=w:=fun w=>by
  have:=Tryz.strings_Count_one ⟨f.toArray⟩ 42 w;rw [QE] at this;exact this
 show Calls Tryz.prog 140 #[.slice p n c,.slice q m d,.string ⟨f.toArray⟩] w _;by_cases Th:f=[46]
 ·subst Th;have e:ep [46] ks=ks.isEmpty:=by unfold ep;rw [if_pos rfl]
  rw [e];have hc0:∀w,Calls Tryz.prog 179 #[.string ⟨#[46]⟩,.string ⟨#[42]⟩] w fun e w'=>e=.returned (.int .i64 0)∧w'=w:=hc
  cases ks with
  |nil=>
   simp only [List.length_nil] at gq;subst gq;exact HE w p q n c d hc0
  |cons x l=>
   have h0:((m:Int)==0)=false:=by
    cases e:((m:Int)==0) with
    |false=>rfl
    |true=>have:=eq_of_beq e;simp at gq;omega
   exact HV w p q n c m d ⟨#[46]⟩ ai aa h0 ew ew hc0
 ·have hd:((⟨f.toArray⟩:ByteArray).toList==[46])=false:=by
   rw [iM];cases e:f==[46] with
   |false=>rfl
   |true=>exact absurd (eq_of_beq e) Th
  have sr:∀sp,ja sp f=(f.length - 2*f.count 42)+f.count 42*sp:=by
   rcases D5 f zK with h|h
   ·exact absurd h Th
   ·exact h
  unfold ep;rw [if_neg Th];obtain⟨F,hF⟩:∃F,F=f.length - 2*f.count 42:=⟨_,rfl⟩;rw [←hF];rw [←hF] at sr;by_cases h1:ks.length<F
  ·rw [if_pos h1];exact Ti w p q n c m d _ (by rw [hsz];exact o2) aa F aa hne hd (f.count 42) aa (by rw [hsz];omega) hc
  ·rw [if_neg h1];by_cases h2:ks.length≠F∧f.count 42=0
   ·rw [if_pos h2];have hc0:=hc;rw [h2.2] at hc0;refine Tj w p q n c m d _ (by rw [hsz];exact o2) aa F (m - F) aa ?_ hne hd (by rw [hsz];omega) hc0;exact MZ
   ·rw [if_neg h2,gq];have oQ:∀x∈(⟨f.toArray⟩:ByteArray).data.toList,x.toNat∈letters∨x=42∨x=46:=fun x hx=>by
     rw [QE] at hx;have:=List.all_eq_true.1 o5 x hx;simp only [Bool.or_eq_true,decide_eq_true_eq] at this;rcases this with(h|h)|h
     ·exact .inl kO
     ·exact .inr (.inl h)
     ·exact .inr (.inr h)
    have Je:ja (m - F) (⟨f.toArray⟩:ByteArray).data.toList≤m:=by
     rw [QE,sr];rcases Nat.le_one_iff_eq_zero_or_eq_one.1 o4 with h|h
     ·rw [h];omega
     ·rw [h];omega
    by_cases h3:m - F=0
    ·exact D1 w p q n c m d _ (by rw [hsz];exact o2) hm hn ks gq hk F (m - F) aa hne hd (f.count 42) aa (by rw [hsz];omega) h3 hc oQ Je _ (by rw [QE])
    ·refine D3 w p q n c m d _ (by rw [hsz];exact o2) hm hn ks gq hk F (m - F) aa hne hd (f.count 42) aa (by rw [hsz];omega) ?_ aa ?_ hc oQ Je _ (by rw [QE])
     ·exact MZ
     ·have:f.count 42≠0:=fun h=>h2 ⟨by omega,h⟩
      omega
end Go.Proofs.YtjchnliaglecoaaGreatDoor
/- A part of the proof. Conditions: none. -/
set_option maxRecDepth 100000
set_option maxHeartbeats 8000000
namespace Go.Proofs.YtjchnliaglecoaaGreatDoor
open Go Go.RowKit Go.Nodes
def jN (a o b:List UInt8) (more i:Nat):UInt8:=if i<a.length then a.getD i 0 else if i<a.length+more then o.getD 0 0 else b.getD (i - a.length - more) 0
def gI (a o b:List UInt8) (more:Nat):List Nat→Nat→Bool
 |[],_=>true
 |k::l,i=>nG k (jN a o b more i).toNat && gI a o b more l (i+1)
theorem IB (a o b:List UInt8) (more:Nat) (ks:List Nat) (i:Nat) (hi:i<ks.length):gI a o b more (ks.drop i) i=(nG ks[i] (jN a o b more i).toNat && gI a o b more (ks.drop (i+1)) (i+1)):=by
 rw [List.drop_eq_getElem_cons hi];rfl
theorem EM (w:World) (kv:Int) (q:Option Addr) (m d:Nat) (ks:List Nat) (gq:ks.length=m) (hm:(m:Int)≤20000) (hk:bC w q (ks.map Int.ofNat)) (vH:∀k∈ks,0<k∧k<37)
  (A O B:ByteArray) (hA:(A.size:Int)≤10) (hO:(O.size:Int)≤10) (hB:(B.size:Int)≤10) (rW:∀w,Calls Tryz.prog 112 #[.int .i64 kv] w fun e w'=>e=.returned (.tuple #[.string A,.string O,.string B,.bool true])∧Below w.heap.size w w')
  (more:Nat) (Bq:(m:Int) - (A.size:Int) - (B.size:Int)=(more:Int)) (hmz:(more:Int)=0)
  (oQ:∀x,x∈A.data.toList∨x∈O.data.toList∨x∈B.data.toList→x.toNat∈letters):
  Calls Tryz.prog 64 #[.int .i64 kv,.slice q m d] w fun e w'=>e=.returned (.bool (gI A.data.toList O.data.toList B.data.toList more ks 0))∧Below w.heap.size w w':=by
 have WT:=trivial;exact ahB
theorem EN (w:World) (kv:Int) (q:Option Addr) (m d:Nat) (ks:List Nat) (gq:ks.length=m) (hm:(m:Int)≤20000) (hk:bC w q (ks.map Int.ofNat)) (vH:∀k∈ks,0<k∧k<37)
  (A O B:ByteArray) (hA:(A.size:Int)≤10) (hO:(O.size:Int)≤10) (hB:(B.size:Int)≤10) (rW:∀w,Calls Tryz.prog 112 #[.int .i64 kv] w fun e w'=>e=.returned (.tuple #[.string A,.string O,.string B,.bool true])∧Below w.heap.size w w')
  (more:Nat) (Bq:(m:Int) - (A.size:Int) - (B.size:Int)=(more:Int)) (hmp:(0:Int)<(more:Int)) (hO1:(1:Int)≤(O.size:Int))
  (oQ:∀x,x∈A.data.toList∨x∈O.data.toList∨x∈B.data.toList→x.toNat∈letters):
  Calls Tryz.prog 64 #[.int .i64 kv,.slice q m d] w fun e w'=>e=.returned (.bool (gI A.data.toList O.data.toList B.data.toList more ks 0))∧Below w.heap.size w w':=by
 have WU:=trivial;exact ahB
end Go.Proofs.YtjchnliaglecoaaGreatDoor
/- A part of the proof. Conditions: none. -/
set_option maxRecDepth 100000
set_option maxHeartbeats 8000000
namespace Go.Proofs.YtjchnliaglecoaaGreatDoor
open Go Go.RowKit Go.Nodes
def kC (l:List UInt8):Prop:=∀x∈l,x≠42∧x≠46
theorem gZ (sp:Nat) (c:UInt8) (f:List UInt8) (ks:List Nat) (h1:c≠42) (h2:c≠46) (h3:f.head?≠some 42):jM sp (c::f) ks=((ks.take 1).all (fun k=>nG k c.toNat) && jM sp f (ks.drop 1)):=by
 show(if c=42∨c=46 then _ else _)=_;rw [if_neg (by simp [h1,h2]),if_neg h3]
theorem xj (x:UInt8) (a o b:List UInt8) (more:Nat):∀(l:List Nat) (i:Nat),gI (x::a) o b more l (i+1)=gI a o b more l i
 |[],_=>rfl
 |k::l,i=>by
  unfold gI;rw [xj x a o b more l (i+1)];congr 3;unfold jN;simp only [List.length_cons,Nat.add_lt_add_iff_right,List.getD_cons_succ];split
  ·rfl
  ·have e1:(i+1<a.length+1+more)=(i<a.length+more):=by apply propext;omega
   have e2:i+1 - (a.length+1) - more=i - a.length - more:=aa;rw [e2];simp only [e1]
theorem xm (o b:List UInt8) (more:Nat):∀(l:List Nat) (i:Nat),gI [] o b (more+1) l (i+1)=gI [] o b more l i
 |[],_=>rfl
 |k::l,i=>by
  unfold gI;rw [xm o b more l (i+1)];congr 3;unfold jN;simp only [List.length_nil,Nat.not_lt_zero,if_false,Nat.zero_add];have e1:(i+1<more+1)=(i<more):=by apply propext;omega
  have e2:i+1 - 0 - (more+1)=i - 0 - more:=aa;rw [e2];simp only [e1]
theorem rO (o:List UInt8) (x:UInt8) (b:List UInt8):∀(l:List Nat) (i:Nat),gI [] o (x::b) 0 l (i+1)=gI [] o b 0 l i
 |[],_=>rfl
 |k::l,i=>by
  unfold gI;rw [rO o x b l (i+1)];congr 3
theorem afF (sp:Nat) (o:List UInt8):∀(b:List UInt8) (ks:List Nat),kC b→ks.length=b.length→jM sp b ks=gI [] o b 0 ks 0
 |[],ks,_,h=>by
  have:ks=[]:=List.eq_nil_of_length_eq_zero h;subst this;rfl
 |x::b,[],_,h=>by simp at h
 |x::b,k::ks,hb,h=>by
  have hx:=hb x List.mem_cons_self;have hb':kC b:=fun y hy=>hb y (List.mem_cons_of_mem _ hy)
  rw [gZ sp x b _ hx.1 hx.2 (fun h3=>by
   cases b with
   |nil=>cases h3
   |cons y b=>exact(hb' y List.mem_cons_self).1 uj)]
  simp only [List.take_succ_cons,List.take_zero,List.all_cons,List.all_nil,Bool.and_true,List.drop_succ_cons,List.drop_zero];rw [afF sp o b ks hb' kO];show _=(nG k (jN [] o (x::b) 0 0).toNat && gI [] o (x::b) 0 ks (0+1));rw [rO];rfl
theorem runM (sp0:Nat) (o:UInt8) (b:List UInt8) (hb:kC b):∀(sp:Nat) (ks:List Nat),ks.length=sp+b.length→((ks.take sp).all (fun k=>nG k o.toNat) && jM sp0 b (ks.drop sp))=gI [] [o] b sp ks 0
 |0,ks,h=>by
  rw [List.take_zero,List.all_nil,Bool.true_and,List.drop_zero];exact afF sp0 [o] b ks hb aa
 |sp+1,[],h=>by simp at h;omega
 |sp+1,k::ks,h=>by
  simp only [List.take_succ_cons,List.all_cons,List.drop_succ_cons];rw [Bool.and_assoc,runM sp0 o b hb sp ks (by simp at h;omega)];show _=(nG k (jN [] [o] b (sp+1) 0).toNat && gI [] [o] b (sp+1) ks (0+1));rw [xm];congr 2
theorem aaE (sp:Nat) (o b rest:List UInt8) (more:Nat) (hr:rest.head?≠some 42) (hR:∀ks:List Nat,ks.length=more+b.length→jM sp rest ks=gI [] o b more ks 0):∀(a:List UInt8) (ks:List Nat),kC a→ks.length=a.length+more+b.length→jM sp (a++rest) ks=gI a o b more ks 0
 |[],ks,_,h=>hR ks kO
 |x::a,[],_,h=>by simp at h;omega
 |x::a,k::ks,ha,h=>by
  have hx:=ha x List.mem_cons_self;have ha':kC a:=fun y hy=>ha y (List.mem_cons_of_mem _ hy)
  rw [List.cons_append,gZ sp x _ _ hx.1 hx.2 (fun h3=>by
   cases a with
   |nil=>exact hr uj
   |cons y a=>exact(ha' y List.mem_cons_self).1 uj)]
  simp only [List.take_succ_cons,List.take_zero,List.all_cons,List.all_nil,Bool.and_true,List.drop_succ_cons,List.drop_zero];rw [aaE sp o b rest more hr hR a ks ha' (by simp at h;omega)];show _=(nG k (jN (x::a) o b more 0).toNat && gI (x::a) o b more ks (0+1));rw [xj];rfl
def rP (a o b:List UInt8) (ks:List Nat):Bool:=
 if ks.length<a.length+b.length then false else if ks.length≠a.length+b.length∧o=[] then false else gI a o b (ks.length - a.length - b.length) ks 0
theorem C8 (a:List UInt8) (ha:kC a) (hc:a.count 42=0) (hd:a≠[46]) (ks:List Nat):ep a ks=rP a [] [] ks:=by
 unfold ep rP;rw [if_neg hd,hc];simp only [Nat.mul_zero,Nat.sub_zero,List.length_nil,Nat.add_zero,and_true];split
 ·rfl
 ·split
  ·rfl
  ·rename_i h1 h2;have he:ks.length=a.length:=lV;rw [he,Nat.sub_self];have:=aaE 0 [] [] [] 0 ak (fun ks h=>by have:ks=[]:=List.eq_nil_of_length_eq_zero kO;subst this;rfl) a ks ha (by simpa using he);rw [List.append_nil] at this;exact this
theorem Gt (a:List UInt8) (o:UInt8) (b:List UInt8) (ha:kC a) (ho:o≠42∧o≠46) (hb:kC b) (hc:(a++o::42::b).count 42=1) (ks:List Nat):ep (a++o::42::b) ks=rP a [o] b ks:=by
 unfold ep rP;have hl:(a++o::42::b).length - 2*1=a.length+b.length:=cr;rw [if_neg (by intro h;have:=congrArg List.length h;simp at this;omega),hc,hl];split
 ·rfl
 ·rename_i h1;rw [if_neg ak,if_neg ak];have e:ks.length - a.length - b.length=ks.length - (a.length+b.length):=aa;rw [e];refine aaE _ [o] b (o::42::b) _ (by simp [ho.1]) (fun ks' h=>?_) a ks ha aa;show(if o=42∨o=46 then _ else _)=_;rw [if_neg (by simp [ho.1,ho.2])];rw [if_pos (show(42::b).head?=some 42 from rfl)];show(_ && (if(42:UInt8)=42∨(42:UInt8)=46 then _ else _))=_;rw [if_pos (.inl rfl)];exact runM _ o b hb _ ks' h
theorem J7 (ks:List Nat):ep [46] ks=rP [] [] [] ks:=by
 unfold ep rP;rw [if_pos rfl];cases ks with
 |nil=>rfl
 |cons x l=>simp
end Go.Proofs.YtjchnliaglecoaaGreatDoor
/- A part of the proof. Conditions: none. -/
set_option maxRecDepth 100000
set_option maxHeartbeats 8000000
namespace Go.Proofs.YtjchnliaglecoaaGreatDoor
open Go Go.RowKit Go.Nodes
def Ah (l:List UInt8):Bool:=l.all fun x=>decide (x≠42) && decide (x≠46)
theorem qw {l:List UInt8} (h:Ah l=true):kC l:=fun x hx=>by
 have:=List.all_eq_true.1 h x hx;simpa using this
def bY (k:Nat):List UInt8:=mM.getD k []
theorem Ce:((List.range 37).all fun k=>Nat.beq k 0||((cT k).2.2.2 && decide ((cT k).1.length≤10) && decide ((cT k).2.1.length≤1) && decide ((cT k).2.2.1.length≤10) && decide (bY k∈mH) &&
  Ah (cT k).1 && Ah (cT k).2.1 && Ah (cT k).2.2.1 && ((cT k).1++(cT k).2.1++(cT k).2.2.1).all (fun x=>letters.contains x.toNat) &&
  ((decide (bY k=[46]) && (cT k).1.isEmpty && (cT k).2.1.isEmpty && (cT k).2.2.1.isEmpty)||(decide (bY k=(cT k).1) && (cT k).2.1.isEmpty && (cT k).2.2.1.isEmpty && decide ((bY k).count 42=0) && decide (bY k≠[46]))||
   (match (cT k).2.1 with|[o]=>decide (bY k=(cT k).1++o::42::(cT k).2.2.1) && decide ((bY k).count 42=1)|_=>false))))=true:=ew
theorem P4 {k:Nat} (h1:1≤k) (h2:k≤36):∃a o b,cT k=(a,o,b,true)∧a.length≤10∧o.length≤1∧b.length≤10∧bY k∈mH∧(∀x,x∈a∨x∈o∨x∈b→x.toNat∈letters)∧∀ks,ep (bY k) ks=rP a o b ks:=by
 have h:=List.all_eq_true.1 Ce k (List.mem_range.2 aa);rw [show Nat.beq k 0=false by cases e:Nat.beq k 0 with
  |true=>have:=Nat.eq_of_beq_eq_true e;omega
  |false=>rfl] at h
 generalize bY k=f at*;rcases hs:cT k with⟨a,o,b,t⟩;rw [hs] at h;simp only [Bool.false_or,Bool.and_eq_true,decide_eq_true_eq] at h;obtain⟨⟨⟨⟨⟨⟨⟨⟨⟨rfl,l1⟩,l2⟩,l3⟩,hm⟩,p1⟩,p2⟩,p3⟩,hl⟩,hc⟩:=h;refine⟨a,o,b,rfl,l1,by omega,l3,hm,fun x hx=>?_,fun ks=>?_⟩
 ·have:x∈a++o++b:=by
   simp only [List.mem_append];rcases hx with h|h|h
   ·exact .inl (.inl h)
   ·exact .inl (.inr h)
   ·exact .inr h
  simpa using List.all_eq_true.1 hl x this
 ·rcases Bool.or_eq_true_iff.1 hc with hc|hc
  ·rcases Bool.or_eq_true_iff.1 hc with hc|hc
   ·simp only [Bool.and_eq_true,decide_eq_true_eq,List.isEmpty_iff] at hc;obtain⟨⟨⟨rfl,rfl⟩,rfl⟩,rfl⟩:=hc;exact J7 ks
   ·simp only [Bool.and_eq_true,decide_eq_true_eq,List.isEmpty_iff] at hc;obtain⟨⟨⟨⟨rfl,rfl⟩,rfl⟩,hc0⟩,hd⟩:=hc;exact C8 f (qw p1) hc0 hd ks
  ·split at hc
   ·rename_i o' _;simp only [Bool.and_eq_true,decide_eq_true_eq] at hc;obtain⟨rfl,hc1⟩:=hc;exact Gt a o' b (qw p1) (qw p2 o' ak) (qw p3) hc1 ks
   ·cases hc
theorem P5 (w:World) (kv:Int) (q:Option Addr) (m d:Nat) (hm:(m:Int)≤20000) (A O B:ByteArray) (hA:(A.size:Int)≤10) (hB:(B.size:Int)≤10) (hlt:(m:Int) - (A.size:Int) - (B.size:Int)<0)
  (rW:∀w,Calls Tryz.prog 112 #[.int .i64 kv] w fun e w'=>e=.returned (.tuple #[.string A,.string O,.string B,.bool true])∧Below w.heap.size w w'):
  Calls Tryz.prog 64 #[.int .i64 kv,.slice q m d] w fun e w'=>e=.returned (.bool false)∧Below w.heap.size w w':=by
 have Hsh:=hid rW;exact Zv
theorem IL (w:World) (kv:Int) (q:Option Addr) (m d:Nat) (hm:(m:Int)≤20000) (A O B:ByteArray) (hA:(A.size:Int)≤10) (hB:(B.size:Int)≤10) (more:Nat) (Bq:(m:Int) - (A.size:Int) - (B.size:Int)=(more:Int)) (hmp:(0:Int)<(more:Int)) (hO:O.toList.isEmpty=true)
  (rW:∀w,Calls Tryz.prog 112 #[.int .i64 kv] w fun e w'=>e=.returned (.tuple #[.string A,.string O,.string B,.bool true])∧Below w.heap.size w w'):
  Calls Tryz.prog 64 #[.int .i64 kv,.slice q m d] w fun e w'=>e=.returned (.bool false)∧Below w.heap.size w w':=by
 have Hsh:=hid rW;have hO2:(O.toList==[])=true:=by cases e:O.toList with
  |nil=>rfl
  |cons x l=>rw [e] at hO;cases hO
 have hmn:0<more:=aa;exact Zv
theorem GW (w:World) (kv:Int) (hk:kv≤0∨36<kv) (q:Option Addr) (m d:Nat) (hm:(m:Int)≤20000):
  Calls Tryz.prog 64 #[.int .i64 kv,.slice q m d] w fun e w'=>e=.returned (.bool false)∧Below w.heap.size w w':=by
 have Hsh:Hid (∀w,Calls Tryz.prog 112 #[.int .i64 kv] w fun e w'=>e=.returned (.tuple #[.string ⟨#[]⟩,.string ⟨#[]⟩,.string ⟨#[]⟩,.bool false])∧Below w.heap.size w w'):=hid fun w=>by
  by_cases h0:kv=0
  ·subst h0;exact Cf 0 aa w
  ·exact IM kv aa w
 clear hk;go_enter Tryz.func64,Tryz.ntmps64;go_wp2_with (first
  |(go_at_call 112;((with_reducible refine(Hsh.out _).mono ?_));rintro e w' ⟨rfl,hb⟩;obtain⟨g0,rfl⟩:=ay hb;clear hb))
 exact zb
theorem LP (w:World) (k:Nat) (h1:1≤k) (h2:k≤36) (q:Option Addr) (m d:Nat) (hm:(m:Int)≤20000) (ks:List Nat) (gq:ks.length=m) (hk:bC w q (ks.map Int.ofNat)) (vH:∀k∈ks,0<k∧k<37):
  Calls Tryz.prog 64 #[.int .i64 (k:Int),.slice q m d] w fun e w'=>e=.returned (.bool (ep (bY k) ks))∧Below w.heap.size w w':=by
 obtain⟨a,o,b,hs,l1,l2,l3,yJ,oQ,heq⟩:=P4 h1 h2;have rW:∀w,Calls Tryz.prog 112 #[.int .i64 (k:Int)] w fun e w'=>e=.returned (.tuple #[.string ⟨a.toArray⟩,.string ⟨o.toArray⟩,.string ⟨b.toArray⟩,.bool true])∧Below w.heap.size w w':=fun w=>by
  have:=Cf k aa w;unfold ER at this;rw [hs] at this;exact this
 have z:∀l:List UInt8,(⟨l.toArray⟩:ByteArray).size=l.length:=fun l=>by simp [ByteArray.size]
 have dd:∀l:List UInt8,(⟨l.toArray⟩:ByteArray).data.toList=l:=fun l=>by simp
 rw [heq];unfold rP;by_cases c1:ks.length<a.length+b.length
 ·rw [if_pos c1];exact P5 w k q m d hm _ _ _ mV mV (by rw [z,z];omega) rW
 ·rw [if_neg c1];by_cases c2:ks.length≠a.length+b.length∧o=[]
  ·rw [if_pos c2];obtain⟨c3,rfl⟩:=c2;exact IL w k q m d hm _ _ _ mV mV (m - a.length - b.length) (by rw [z,z];omega) aa (by rw [ByteArray.toList_eq];rfl) rW
  ·rw [if_neg c2,gq];have aaf:∀x,x∈(⟨a.toArray⟩:ByteArray).data.toList∨x∈(⟨o.toArray⟩:ByteArray).data.toList∨x∈(⟨b.toArray⟩:ByteArray).data.toList→x.toNat∈letters:=by
    simpa [dd] using oQ
   by_cases c4:m - a.length - b.length=0
   ·have:=EM w k q m d ks gq hm hk vH ⟨a.toArray⟩ ⟨o.toArray⟩ ⟨b.toArray⟩ mV mV mV rW (m - a.length - b.length) (by rw [z,z];omega) aa aaf
    rwa [dd,dd,dd] at this
   ·have ho:o≠[]:=fun h=>c2 ⟨by omega,h⟩
    have hol:1≤o.length:=by cases o with
     |nil=>exact absurd rfl ho
     |cons x l=>simp
    have:=EN w k q m d ks gq hm hk vH ⟨a.toArray⟩ ⟨o.toArray⟩ ⟨b.toArray⟩ mV mV mV rW (m - a.length - b.length) (by rw [z,z];omega) aa mV aaf
    rwa [dd,dd,dd] at this
end Go.Proofs.YtjchnliaglecoaaGreatDoor