/- A part of the proof. Conditions: none. -/
import Derived.Deep.QuietTactic
import Derived.BigQuiet
import Derived.Test.YtjchnliaglecoaaGreatDoorZz
import Derived.Test.YtjchnliaglecoaaGreatDoorLi
import Derived.Test.YtjchnliaglecoaaGreatDoorBaseB
import Derived.Test.YtjchnliaglecoaaGreatDoorProg
set_option linter.unusedVariables false
set_option linter.unusedSimpArgs false
set_option maxRecDepth 100000
set_option maxHeartbeats 8000000
namespace Go.Proofs.YtjchnliaglecoaaGreatDoor
open Go Go.RowKit Go.Nodes
def tY (s:ByteArray) (i:Nat):ByteArray:=⟨(34::(s.data.toList.take i).flatMap qc).toArray⟩
theorem wV (s:ByteArray):tY s 0=⟨#[34]⟩:=by simp [tY]
theorem wW (s:ByteArray) (i:Nat) (h:i<s.size):tY s (i+1)=tY s i++⟨(qc s[i]).toArray⟩:=by
 have h2:i<s.data.toList.length:=kO;have h3:s.data.toList[i]=s[i]:=gX;apply ByteArray.ext;apply Array.ext';rw [ByteArray.data_append,Array.toList_append];simp only [tY];rw [List.take_add_one,List.getElem?_eq_getElem h2,List.flatMap_append,h3];simp
theorem qE (s:ByteArray) (i:Nat):(tY s i).size≤4*i+1:=by
 have:=rJ (s.data.toList.take i);have h2:(s.data.toList.take i).length≤i:=by rw [List.length_take];omega
 show(34::(s.data.toList.take i).flatMap qc).toArray.size≤_;simp only [List.size_toArray,List.length_cons];omega
theorem tZ (s:ByteArray):tY s s.size++⟨#[34]⟩=iL s:=by
 apply ByteArray.ext;apply Array.ext';rw [ByteArray.data_append,Array.toList_append];simp only [tY,iL];rw [List.take_of_length_le ak];simp
theorem Q8 (s:ByteArray) (i:Nat) (h:i<s.size):s.extract i (i+1)=⟨#[s[i]]⟩:=by
 have h2:i<s.data.toList.length:=kO;have h3:s.data.toList[i]=s[i]:=gX;apply ByteArray.ext;apply Array.ext';rw [ByteArray.data_extract,Array.toList_extract];show(s.data.toList.drop i).take (i+1 - i)=[s[i]];rw [show i+1 - i=1 by omega,List.drop_eq_getElem_cons h2,h3];rfl
theorem Fa:∀h:Nat,h<16→(⟨#[48,49,50,51,52,53,54,55,56,57,97,98,99,100,101,102]⟩:ByteArray).extract h (h+1)=⟨#[CP h]⟩:=by decide
theorem Xz {c:UInt8} (h:c.toNat=10):qc c=[92,110]:=by
 have:c=10:=UInt8.toNat_inj.1 kO;rw [this];rfl
theorem oo {c:UInt8} {k:Nat} (hk:k<256) (h:c.toNat≠k):c≠UInt8.ofNat k:=fun e=>h (by rw [e];simp [Nat.mod_eq_of_lt hk])
theorem yB {c:UInt8} (h:c.toNat≠10) (h2:c.toNat=34∨c.toNat=92):qc c=[92,c]:=by
 have h1:¬c=10:=oo (k:=10) ai h;have h3:c=34∨c=92:=h2.imp (fun e=>UInt8.toNat_inj.1 (by simpa using e)) (fun e=>UInt8.toNat_inj.1 (by simpa using e));unfold qc;rw [if_neg h1,if_pos h3]
theorem CQ {c:UInt8} (h:c.toNat≠10) (h2:c.toNat≠34) (h3:c.toNat≠92) (h4:c.toNat<32∨126<c.toNat):qc c=[92,120,CP (c.toNat / 16),CP (c.toNat % 16)]:=by
 have e1:¬c=10:=oo (k:=10) ai h;have e2:¬(c=34∨c=92):=fun e=>e.elim (oo (k:=34) ai h2) (oo (k:=92) ai h3)
 have e3:c<32∨126<c:=h4.imp (fun e=>by rw [UInt8.lt_iff_toNat_lt];simpa using e) (fun e=>by rw [UInt8.lt_iff_toNat_lt];simpa using e);unfold qc;rw [if_neg e1,if_neg e2,if_pos e3]
theorem Fb {c:UInt8} (h:c.toNat≠10) (h2:c.toNat≠34) (h3:c.toNat≠92) (h4:32≤c.toNat) (h5:c.toNat≤126):qc c=[c]:=by
 have e1:¬c=10:=oo (k:=10) ai h;have e2:¬(c=34∨c=92):=fun e=>e.elim (oo (k:=34) ai h2) (oo (k:=92) ai h3)
 have e3:¬(c<32∨126<c):=fun e=>e.elim (fun e=>by rw [UInt8.lt_iff_toNat_lt] at e;simp at e;omega) (fun e=>by rw [UInt8.lt_iff_toNat_lt] at e;simp at e;omega)
 unfold qc;rw [if_neg e1,if_neg e2,if_neg e3]
theorem CR (s:ByteArray) (w:World) (hs:s.size≤100000):
  Calls Tryz.prog 100 #[.string s] w fun e w'=>e=.returned (.string (iL s))∧Below w.heap.size w w':=by
 go_enter Tryz.func100,Tryz.ntmps100;go_wp2;go_loopw [3,4] (fun ov iv wr=>∃i:Nat,i≤s.size∧iv=.int .i64 i∧ov=.string (tY s i)∧Below w.heap.size w wr) (fun _ iv _=>s.size - (intOf iv).toNat)
 case atStart=>exact⟨0,Nat.zero_le _,rfl,by rw [wV],Below.refl _ _⟩
 case round=>
  obtain⟨i,hi,rfl,rfl,hB⟩:=hrel;have hp:=qE s i;by_cases hlt:i<s.size
  ·have i0:(0:Int)≤(i:Int):=by omega
   have i1:(i:Int)<(s.size:Int):=aa;have wX:=hid (wW s i hlt);have hcut:=Q8 s i hlt;obtain⟨b,sZ⟩:∃b,(s[i]).toNat=b:=⟨_,rfl⟩;have fE:b<256:=by rw [←sZ];exact(s[i]).toNat_lt
   have HB:=hid hB;clear hB;by_cases h10:b=10
   ·subst h10;have hq:=hid (Xz sZ);exact JJ
   have Q9:((b:Int)==10)=false:=cr;by_cases h92:b=92
   ·subst h92;have hq:=hid (yB aa (.inr sZ));clear h10 Q9;exact JK
   have e92:((b:Int)==92)=false:=cr;by_cases h34:b=34
   ·subst h34;have hq:=hid (yB aa (.inl sZ));clear h10 Q9 h92 e92;exact JK
   have e34:((b:Int)==34)=false:=cr;by_cases hx:b<32∨126<b
   ·have hq:=hid (CQ (c:=s[i]) aa aa aa aa);have eA:=CQ (c:=s[i]) aa aa aa aa;have hh1:=Fa (b / 16) aa;have JL:=Fa (b % 16) aa;obtain⟨q,iq⟩:∃q,b / 16=q:=⟨_,rfl⟩;obtain⟨r,hr1⟩:∃r,b % 16=r:=⟨_,rfl⟩;have hqb:q<16:=aa;have hrb:r<16:=aa;rw [iq] at hh1;rw [sZ,iq,hr1] at eA;have hq:=hid eA;clear eA;rw [hr1] at JL;have d1:((b:Int) / 16)=(q:Int):=aa;have d2:((b:Int) % 16)=(r:Int):=aa;have d3:((b:Int).tdiv 16)=(q:Int):=by rw [←d1];exact Int.tdiv_eq_ediv_of_nonneg aa
    have d4:((b:Int).tmod 16)=(r:Int):=by rw [←d2];exact Int.tmod_eq_emod_of_nonneg aa
    rcases hx with hx|hx
    ·have hx1:(b:Int)<32:=by omega
     exact JM
    ·have hx1:¬(b:Int)<32:=by omega
     have hx2:(126:Int)<(b:Int):=aa;exact JM
   ·have hx1:¬(b:Int)<32:=by omega
    have hx2:¬(126:Int)<(b:Int):=aa;have hq:=hid (Fb (c:=s[i]) aa aa aa aa aa);exact JJ
  ·obtain rfl:i=s.size:=by omega
   have HB:=hid hB;have He:=hid (tZ s);clear hB;go_wp2;go_ret;exact⟨by rw [←He.out];rfl,HB.out⟩
end Go.Proofs.YtjchnliaglecoaaGreatDoor