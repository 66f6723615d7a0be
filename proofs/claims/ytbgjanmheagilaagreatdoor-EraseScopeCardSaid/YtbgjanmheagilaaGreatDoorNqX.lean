/- A part of the proof. Conditions: none. -/
import Derived.Outline
import Derived.Test.YtbgjanmheagilaaGreatDoorZz
import Derived.Test.YtbgjanmheagilaaGreatDoorLfBX
import Derived.Test.YtbgjanmheagilaaGreatDoorBaseB
import Derived.Test.YtbgjanmheagilaaGreatDoorDw
set_option linter.unusedVariables false
set_option linter.unusedSimpArgs false
set_option maxRecDepth 100000
set_option maxHeartbeats 8000000
namespace Go.Proofs.YtbgjanmheagilaaGreatDoor
open Go Go.RowKit
theorem zO {f:Nat} {g:Nat→List Value} {v:Nat→Value} {n:Nat} (h:((List.range n).all fun c=>nH f (g c) (v c))=true) (c:Nat) (hc:c<n) (w:World):Calls Tryz.prog f (g c).toArray w fun e w'=>e=.returned (v c)∧Below w.heap.size w w':=
 iN (List.all_eq_true.1 h c (List.mem_range.2 hc)) w
def qP (c:Nat):Nat:=bif Nat.beq (dO c) 16 then 99 else dO c
theorem Iu:((List.range 128).all fun c=>nH 161 [.int .i32 c] (.int .u64 (qP c)))=true:=by kernel_rfl
theorem uK (c:Int) (h:128≤c) (h2:c≤2147483647) (w:World):Calls Tryz.prog 161 #[.int .i32 c] w fun e w'=>e=.returned (.int .u64 99)∧Below w.heap.size w w':=by
 go_enter Tryz.func161,Tryz.ntmps161;exact LD
theorem nw (c:Nat) (hc:c<128) (w:World):Calls Tryz.prog 161 #[.int .i32 (c:Int)] w fun e w'=>e=.returned (.int .u64 (qP c))∧Below w.heap.size w w':=zO Iu c hc w
def iO:List UInt8→Nat→Option Nat
 |[],n=>some n
 |b::l,n=>if 9<dO b.toNat∨(9223372036854775807 - dO b.toNat) / 10<n then none else iO l (n*10+dO b.toNat)
def uL:List UInt8→Nat→Option Nat
 |[],n=>some n
 |b::l,n=>if 15<dO b.toNat then none else uL l ((n*16+dO b.toNat) % 18446744073709551616)
theorem tH (c:Nat):dO c≤16:=by
 unfold dO;simp only [cond_eq_ite]
 repeat' split
 all_goals simp_all
 all_goals omega
theorem ny (l:List UInt8) (k:Nat) (hk:k<l.length) (n:Nat):iO (l.drop k) n=if 9<dO l[k].toNat∨(9223372036854775807 - dO l[k].toNat) / 10<n then none else iO (l.drop (k+1)) (n*10+dO l[k].toNat):=by
 exact uy
theorem xH (l:List UInt8) (k:Nat) (hk:k<l.length) (n:Nat):uL (l.drop k) n=if 15<dO l[k].toNat then none else uL (l.drop (k+1)) ((n*16+dO l[k].toNat) % 18446744073709551616):=by
 exact uy
def lJ:Option Nat→Value
 |some n=>.tuple #[.int .i64 (wrap64 (n:Int)),.bool true]
 |none=>.tuple #[.int .i64 0,.bool false]
theorem tI {b:Nat} (h:qP b<17):dO b=qP b:=by
 unfold qP at*;cases e:Nat.beq (dO b) 16 with
 |true=>rw [e] at h;simp at h
 |false=>rfl
theorem Gk {b:Nat} (h:16≤qP b):dO b=16:=by
 unfold qP at*;cases e:Nat.beq (dO b) 16 with
 |true=>exact Nat.eq_of_beq_eq_true e
 |false=>rw [e] at h;simp only [cond_false] at h;have:=tH b;omega
theorem xI {b:Nat} (h:128≤b):dO b=16:=by
 unfold dO;simp only [cond_eq_ite];rw [if_neg,if_neg,if_neg]
 all_goals simp only [Bool.and_eq_true,Nat.ble_eq,not_and,Nat.not_le]
 all_goals omega
theorem LF (s:ByteArray) (hs:s.size≤140737488355328) (h1:(2:Int)<(s.size:Int)) (h2:((s.extract 0 2).toList==[48,120])=false) (w:World):
  Calls Tryz.prog 126 #[.string s] w fun e w'=>e=.returned (lJ (iO s.data.toList 0))∧Below w.heap.size w w':=by
 have hl:s.data.toList.length=s.size:=ai;have Hl:=hid hl;have hne:(s.toList==[])=false:=by
  exact uM
 clear hl;go_enter Tryz.func126,Tryz.ntmps126;go_wp2;go_loopw [5] (fun nv wr=>∃(pos m:Nat) (g:eo),nv=.int .u64 m∧wr=grow (w.iter s pos) g∧pos≤s.size∧Hid (m≤9223372036854775807∧iO (s.data.toList.drop pos) m=iO s.data.toList 0)) (fun _ wr=>s.size - wr.iterPos w.heap.size)
 case atStart=>exact⟨0,0,_,rfl,(cW _).symm,by omega,by omega,rfl⟩
 case round=>
  obtain⟨pos,m,g,rfl,rfl,hp,hR⟩:=hrel;by_cases hlt:pos<s.size
  ·have hpl:pos<s.data.toList.length:=by rw [Hl.out];exact hlt
   have hd:=ny s.data.toList pos hpl m;rw [hR.out.2] at hd;have hb:s.data.toList[pos]=s[pos]:=iM;rw [hb] at hd;have hm:=hR.out.1;by_cases nJ:(s[pos]).toNat<128
   ·have hdec:=decode_ascii s pos hlt nJ;have nx:=jL (P:=Tryz.prog) s pos _ (pos+1) hlt Bz aa;generalize (s[pos]).toNat=b at*;have H:=hid hd;have Hm:=hid hm;clear hd hm hR hb hdec;go_wp2_with (first
     |(go_at_call 161;refine(nw b nJ _).mono ?_;rintro e w' ⟨rfl,hb⟩;obtain⟨g2,rfl⟩:=aA hb;clear hb))
    ·rename_i q1 q2;exact U0
    ·rename_i q1 q2;exact U2
    ·rename_i q1;exact U3
   ·exact U4
  ·exact U5
theorem LG (s:ByteArray) (hs:s.size≤140737488355328) (h1:(s.size:Int)≤2) (h0:(1:Int)≤(s.size:Int)) (w:World):
  Calls Tryz.prog 126 #[.string s] w fun e w'=>e=.returned (lJ (iO s.data.toList 0))∧Below w.heap.size w w':=by
 have hl:s.data.toList.length=s.size:=ai;have Hl:=hid hl;have hne:(s.toList==[])=false:=by
  exact uM
 clear hl;go_enter Tryz.func126,Tryz.ntmps126;go_wp2;go_loopw [5] (fun nv wr=>∃(pos m:Nat) (g:eo),nv=.int .u64 m∧wr=grow (w.iter s pos) g∧pos≤s.size∧Hid (m≤9223372036854775807∧iO (s.data.toList.drop pos) m=iO s.data.toList 0)) (fun _ wr=>s.size - wr.iterPos w.heap.size)
 case atStart=>exact⟨0,0,_,rfl,(cW _).symm,by omega,by omega,rfl⟩
 case round=>
  obtain⟨pos,m,g,rfl,rfl,hp,hR⟩:=hrel;by_cases hlt:pos<s.size
  ·have hpl:pos<s.data.toList.length:=by rw [Hl.out];exact hlt
   have hd:=ny s.data.toList pos hpl m;rw [hR.out.2] at hd;have hb:s.data.toList[pos]=s[pos]:=iM;rw [hb] at hd;have hm:=hR.out.1;by_cases nJ:(s[pos]).toNat<128
   ·have hdec:=decode_ascii s pos hlt nJ;have nx:=jL (P:=Tryz.prog) s pos _ (pos+1) hlt Bz aa;generalize (s[pos]).toNat=b at*;have H:=hid hd;have Hm:=hid hm;clear hd hm hR hb hdec;go_wp2_with (first
     |(go_at_call 161;refine(nw b nJ _).mono ?_;rintro e w' ⟨rfl,hb⟩;obtain⟨g2,rfl⟩:=aA hb;clear hb))
    ·rename_i q1 q2;exact U0
    ·rename_i q1 q2;exact U2
    ·rename_i q1;exact U3
   ·exact U4
  ·exact U5
end Go.Proofs.YtbgjanmheagilaaGreatDoor
/- A part of the proof. Conditions: none. -/
set_option maxRecDepth 100000
set_option maxHeartbeats 8000000
namespace Go.Proofs.YtbgjanmheagilaaGreatDoor
open Go Go.RowKit
def zU (l:List UInt8):Value:=lJ (if 16<l.length then none else uL l 0)
theorem IK (w:World) (t:ByteArray) (p:Nat):w.drew.iter t p=grow (w.iter t p) ⟨#[],w.drew.drawn⟩:=by
 simp only [grow,World.iter];show World.alloc _ _=_;simp only [World.alloc,Array.append_empty];rfl
theorem B7 (m d:Nat):IntKind.u64.wrap (IntKind.u64.wrap ((m:Int)*16)+(d:Int))=(((m*16+d) % 18446744073709551616:Nat):Int):=by
 rw [IntKind.wrap_u64,IntKind.wrap_u64];omega
theorem QI (s t:ByteArray) (hs:s.size≤140737488355328) (h1:(2:Int)<(s.size:Int)) (h2:((s.extract 0 2).toList==[48,120])=true) (ht:s.extract 2 s.size=t) (w:World):
  Calls Tryz.prog 126 #[.string s] w fun e w'=>e=.returned (zU t.data.toList)∧Below w.heap.size w w':=by
 have hl:t.data.toList.length=t.size:=ai;have Hl:=hid hl;have yS:t.size=s.size - 2:=by rw [←ht];simp
 have hne:(t.toList==[])=false:=by
  rw [ByteArray.toList_eq];cases e:t.data.toList with
  |nil=>rw [e] at hl;simp at hl;omega
  |cons x l=>rfl
 have h3:(1:Int)≤(t.size:Int):=aa;have h4:t.size≤140737488355328:=aa;clear hl yS;go_enter Tryz.func126,Tryz.ntmps126;go_wp2;go_region;go_wp2;rw [IK];go_loopw [5] (fun nv wr=>∃(pos m:Nat) (g:eo),nv=.int .u64 m∧wr=grow (w.iter t pos) g∧pos≤t.size∧Hid (m<18446744073709551616∧uL (t.data.toList.drop pos) m=uL t.data.toList 0)) (fun _ wr=>t.size - wr.iterPos w.heap.size)
 case atStart=>exact⟨0,0,_,rfl,rfl,by omega,by omega,rfl⟩
 case round=>
  obtain⟨pos,m,g,rfl,rfl,hp,hR⟩:=hrel;by_cases hlt:pos<t.size
  ·have hpl:pos<t.data.toList.length:=by rw [Hl.out];exact hlt
   have hd:=xH t.data.toList pos hpl m;rw [hR.out.2] at hd;have hb:t.data.toList[pos]=t[pos]:=iM;rw [hb] at hd;have hm:=hR.out.1;by_cases nJ:(t[pos]).toNat<128
   ·have hdec:=decode_ascii t pos hlt nJ;have nx:=jL (P:=Tryz.prog) t pos _ (pos+1) hlt Bz aa;generalize (t[pos]).toNat=b at*;have H:=hid hd;have Hm:=hid hm;clear hd hm hR hb hdec;by_cases q1:16≤qP b
    ·have Yo:(16:Int)≤(qP b:Int):=by omega
     have hd:=H.out;rw [if_pos (by have:=Gk q1;omega)] at hd;have H2:=hid hd;clear hd;go_wp2_with (first
      |(go_at_call 161;refine(nw b nJ _).mono ?_;rintro e w' ⟨rfl,hb⟩;obtain⟨g2,rfl⟩:=aA hb;clear hb))
     go_ret2;exact⟨by unfold zU;rw [H2.out];split<;>rfl,cH⟩
    ·have Yo:(qP b:Int)<16:=by omega
     have e:=tI (b:=b) aa;have hd:=H.out;rw [if_neg aa] at hd;have H2:=hid hd;have E:=hid e;clear hd e;go_wp2_with (first
      |(go_at_call 161;refine(nw b nJ _).mono ?_;rintro e w' ⟨rfl,hb⟩;obtain⟨g2,rfl⟩:=aA hb;clear hb))
     rw [B7];refine⟨⟨pos+1,(m*16+qP b) % 18446744073709551616,_,rfl,rfl,by omega,Nat.mod_lt _ ay,by rw [←E.out];exact H2.out.symm⟩, ?_⟩;exact Gr
   ·have hh:=decode_high t pos hlt aa;have JL:=decode_le t pos;have nx:=tF (P:=Tryz.prog) t pos (Utf8.decode t pos).1 (Utf8.decode t pos).2 hlt rfl;rw [if_pos (by have:=xI (b:=(t[pos]).toNat) aa;omega)] at hd;generalize (Utf8.decode t pos).1=b at*;generalize (Utf8.decode t pos).2=wd at*;have k1:=hh.1;have H:=hid hd;have Hm:=hid hm;clear hd hm hR hb hh;go_wp2_with (first
     |(go_at_call 161;refine(uK b aa aa _).mono ?_;rintro e w' ⟨rfl,hb⟩;obtain⟨g2,rfl⟩:=aA hb;clear hb))
    go_ret2;exact⟨by unfold zU;rw [H.out];split<;>rfl,cH⟩
  ·have nx:=ji (P:=Tryz.prog) t pos hlt;have hd:=hR.out.2;rw [List.drop_eq_nil_of_le (by rw [Hl.out];omega)] at hd;have H:=hid hd;have Hm:=hid hR.out.1;clear hd hR;by_cases q:16<t.size
   ·have q1:(16:Int)<(t.size:Int):=by omega
    go_wp2;go_ret2;exact⟨by unfold zU;rw [if_pos (by rw [Hl.out];exact q)];rfl,cH⟩
   ·have q1:(t.size:Int)≤16:=by omega
    go_wp2;go_ret2;exact⟨by unfold zU;rw [if_neg (by rw [Hl.out];exact q),←H.out];rfl,cH⟩
def dY (l:List UInt8):Option Nat:=
 if 2<l.length∧l.take 2=[48,120] then(if 16<(l.drop 2).length then none else uL (l.drop 2) 0) else if l=[] then none else iO l 0
theorem QJ (s:ByteArray) (h1:(s.size:Int)≤2) (h0:(s.size:Int)=0) (w:World):
  Calls Tryz.prog 126 #[.string s] w fun e w'=>e=.returned (lJ none)∧Below w.heap.size w w':=by
 have hne:(s.toList==[])=true:=by
  exact Ms
 have nx:=pL (P:=Tryz.prog) s 0 aa;clear h0;go_enter Tryz.func126,Tryz.ntmps126;go_wp2;go_loopw [5] (fun nv wr=>nv=.int .u64 0∧wr=w.iter s 0) (fun _ _=>0)
 case atStart=>exact⟨rfl,rfl⟩
 case round=>
  obtain⟨rfl,rfl⟩:=hrel;go_wp2;go_ret2;exact Mt
theorem gZ (s:ByteArray) (n:Nat) (h:n≤s.size):(s.extract 0 n).toList=s.data.toList.take n:=by
 rw [ByteArray.toList_eq];simp
theorem kB (s:ByteArray) (n:Nat):(s.extract n s.size).data.toList=s.data.toList.drop n:=by
 simp;exact List.take_of_length_le ai
theorem od (s:ByteArray) (hs:s.size≤140737488355328) (w:World):
  Calls Tryz.prog 126 #[.string s] w fun e w'=>e=.returned (lJ (dY s.data.toList))∧Below w.heap.size w w':=by
 have hl:s.data.toList.length=s.size:=ai;by_cases h:2<s.size
 ·cases h2:((s.extract 0 2).toList==[48,120]) with
  |true=>
   have:=QI s _ hs aa h2 rfl w;have e:dY s.data.toList=(if 16<(s.data.toList.drop 2).length then none else uL (s.data.toList.drop 2) 0):=by
    have h5:s.data.toList.take 2=[48,120]:=by rw [←gZ s 2 aa];exact eq_of_beq h2
    unfold dY;rw [if_pos ⟨by omega,h5⟩]
   rw [e,←kB];exact this
  |false=>
   have:=LF s hs aa h2 w;exact Vs
 ·by_cases h0:s.size=0
  ·have:=QJ s aa aa w;exact Mu
  ·have:=LG s hs aa aa w;exact Mv
end Go.Proofs.YtbgjanmheagilaaGreatDoor
/- A part of the proof. Conditions: none. -/
set_option maxRecDepth 100000
set_option maxHeartbeats 8000000
namespace Go.Proofs.YtbgjanmheagilaaGreatDoor
open Go Go.RowKit
theorem Jj (m d:Nat):IntKind.u64.wrap (IntKind.u64.wrap (16*(m:Int))+(d:Int))=(((m*16+d) % 18446744073709551616:Nat):Int):=by
 rw [show 16*(m:Int)=(m:Int)*16 by omega];exact B7 m d
theorem gh (c:Nat) (hc:c<256) (w:World):Calls Tryz.prog 104 #[.int .u8 (c:Int)] w fun e w'=>e=.returned (.int .i64 (dO c))∧Below w.heap.size w w':=zO DG c hc w
theorem I8 {m:Nat} (h:m≤9223372036854775807):lJ (some m)=.tuple #[.int .i64 (m:Int),.bool true]:=by
 show Value.tuple #[.int .i64 (wrap64 (m:Int)),.bool true]=_;rw [IntWalk.wrap64_in (m:Int) aa]
theorem Jk (s:ByteArray) (hs:s.size≤140737488355328) (h1:(3:Int)≤(s.size:Int)) (h2:((s.extract 0 2).toList==[48,120])=false) (w:World):
  Calls Tryz.prog 74 #[.string s] w fun e w'=>e=.returned (lJ (iO s.data.toList 0))∧Below w.heap.size w w':=by
 have hl:s.data.toList.length=s.size:=ai;have Hl:=hid hl;have hne:s.toList.isEmpty=false:=by
  exact uM
 clear hl;go_enter Tryz.func74,Tryz.ntmps74;go_wp2;go_loopw [7,8] (fun nv iv wr=>∃(pos m:Nat),iv=.int .i64 pos∧nv=.int .i64 m∧Below w.heap.size w wr∧pos≤s.size∧Hid (m≤9223372036854775807∧iO (s.data.toList.drop pos) m=iO s.data.toList 0)) (fun _ iv _=>s.size - (intOf iv).toNat)
 case atStart=>exact⟨0,0,rfl,rfl,Below.refl _ _,by omega,by omega,rfl⟩
 case round=>
  obtain⟨pos,m,rfl,rfl,hB,hp,hR⟩:=hrel;by_cases hlt:pos<s.size
  ·have hpl:pos<s.data.toList.length:=by rw [Hl.out];exact hlt
   have hd:=ny s.data.toList pos hpl m;rw [hR.out.2] at hd;have hb:s.data.toList[pos]=s[pos]:=iM;rw [hb] at hd;have hm:=hR.out.1;have p0:(0:Int)≤(pos:Int):=aa;have p1:(pos:Int)<(s.size:Int):=aa;have fP:(s[pos]).toNat<256:=(s[pos]).toNat_lt;obtain⟨b,TL⟩:∃b,(s[pos]).toNat=b:=⟨_,rfl⟩;rw [TL] at hd fP;have hle:=tH b;have H:=hid hd;have Hm:=hid hm;have HB:=hid hB;clear hd hm hR hb hB;by_cases q1:9<dO b
   ·exact Wc
   ·have Yo:(dO b:Int)≤9:=by omega
    go_wp2_with (first
     |(go_at_call 104;((with_reducible refine(gh b fP _).mono ?_));rintro e w' ⟨rfl,hb⟩;obtain⟨g2,rfl⟩:=aA hb;clear hb))
    ·rename_i q;exact Ny
    ·rename_i q;exact Wk
  ·exact Wt
theorem Jm (s:ByteArray) (hs:s.size≤140737488355328) (h1:(s.size:Int)<3) (h0:(1:Int)≤(s.size:Int)) (w:World):
  Calls Tryz.prog 74 #[.string s] w fun e w'=>e=.returned (lJ (iO s.data.toList 0))∧Below w.heap.size w w':=by
 have hl:s.data.toList.length=s.size:=ai;have Hl:=hid hl;have hne:s.toList.isEmpty=false:=by
  exact uM
 clear hl;go_enter Tryz.func74,Tryz.ntmps74;go_wp2;go_loopw [7,8] (fun nv iv wr=>∃(pos m:Nat),iv=.int .i64 pos∧nv=.int .i64 m∧Below w.heap.size w wr∧pos≤s.size∧Hid (m≤9223372036854775807∧iO (s.data.toList.drop pos) m=iO s.data.toList 0)) (fun _ iv _=>s.size - (intOf iv).toNat)
 case atStart=>exact⟨0,0,rfl,rfl,Below.refl _ _,by omega,by omega,rfl⟩
 case round=>
  obtain⟨pos,m,rfl,rfl,hB,hp,hR⟩:=hrel;by_cases hlt:pos<s.size
  ·have hpl:pos<s.data.toList.length:=by rw [Hl.out];exact hlt
   have hd:=ny s.data.toList pos hpl m;rw [hR.out.2] at hd;have hb:s.data.toList[pos]=s[pos]:=iM;rw [hb] at hd;have hm:=hR.out.1;have p0:(0:Int)≤(pos:Int):=aa;have p1:(pos:Int)<(s.size:Int):=aa;have fP:(s[pos]).toNat<256:=(s[pos]).toNat_lt;obtain⟨b,TL⟩:∃b,(s[pos]).toNat=b:=⟨_,rfl⟩;rw [TL] at hd fP;have hle:=tH b;have H:=hid hd;have Hm:=hid hm;have HB:=hid hB;clear hd hm hR hb hB;by_cases q1:9<dO b
   ·exact Wc
   ·have Yo:(dO b:Int)≤9:=by omega
    go_wp2_with (first
     |(go_at_call 104;((with_reducible refine(gh b fP _).mono ?_));rintro e w' ⟨rfl,hb⟩;obtain⟨g2,rfl⟩:=aA hb;clear hb))
    ·rename_i q;exact Ny
    ·rename_i q;exact Wk
  ·exact Wt
theorem OW (s:ByteArray) (hs:s.size≤140737488355328) (h1:(3:Int)≤(s.size:Int)) (h2:((s.extract 0 2).toList==[48,120])=true) (w:World):
  Calls Tryz.prog 74 #[.string s] w fun e w'=>e=.returned (zU (s.data.toList.drop 2))∧Below w.heap.size w w':=by
 have hl:s.data.toList.length=s.size:=ai;have Hl:=hid hl;have hne:s.toList.isEmpty=false:=by
  exact uM
 clear hl;go_enter Tryz.func74,Tryz.ntmps74;go_wp2;go_loopw [4,5] (fun nv iv wr=>∃(pos m:Nat),iv=.int .i64 pos∧nv=.int .u64 m∧Below w.heap.size w wr∧pos≤s.size∧2≤pos∧pos≤18∧Hid (m<18446744073709551616∧uL (s.data.toList.drop pos) m=uL (s.data.toList.drop 2) 0)) (fun _ iv _=>s.size - (intOf iv).toNat)
 case atStart=>exact⟨2,0,rfl,rfl,Below.refl _ _,by omega,by omega,by omega,by omega,rfl⟩
 case round=>
  obtain⟨pos,m,rfl,rfl,hB,hp,zM,al4,hR⟩:=hrel;by_cases hlt:pos<s.size
  ·have hpl:pos<s.data.toList.length:=by rw [Hl.out];exact hlt
   have hd:=xH s.data.toList pos hpl m;rw [hR.out.2] at hd;have hb:s.data.toList[pos]=s[pos]:=iM;rw [hb] at hd;have hm:=hR.out.1;have p0:(0:Int)≤(pos:Int):=aa;have p1:(pos:Int)<(s.size:Int):=aa;have fP:(s[pos]).toNat<256:=(s[pos]).toNat_lt;obtain⟨b,TL⟩:∃b,(s[pos]).toNat=b:=⟨_,rfl⟩;rw [TL] at hd fP;have hle:=tH b;have H:=hid hd;have Hm:=hid hm;have HB:=hid hB;clear hd hm hR hb hB;by_cases q1:15<dO b
   ·have Yo:(15:Int)<(dO b:Int):=by omega
    have hd:=H.out;rw [if_pos q1] at hd;have H2:=hid hd;clear hd;go_wp2_with (first
     |(go_at_call 104;((with_reducible refine(gh b fP _).mono ?_));rintro e w' ⟨rfl,hb⟩;obtain⟨g2,rfl⟩:=aA hb;clear hb))
    go_ret2;exact⟨by unfold zU;rw [H2.out];split<;>rfl,yg⟩
   ·have Yo:(dO b:Int)≤15:=by omega
    have hd:=H.out;rw [if_neg q1] at hd;have H2:=hid hd;clear hd;by_cases q2:17<pos
    ·have q2':(17:Int)<(pos:Int):=by omega
     go_wp2_with (first
      |(go_at_call 104;((with_reducible refine(gh b fP _).mono ?_));rintro e w' ⟨rfl,hb⟩;obtain⟨g2,rfl⟩:=aA hb;clear hb))
     go_ret2;exact⟨by unfold zU;rw [if_pos (by rw [List.length_drop,Hl.out];omega)];rfl,yg⟩
    ·have q2':(pos:Int)≤17:=by omega
     go_wp2_with (first
      |(go_at_call 104;((with_reducible refine(gh b fP _).mono ?_));rintro e w' ⟨rfl,hb⟩;obtain⟨g2,rfl⟩:=aA hb;clear hb))
     rw [Jj];exact⟨⟨pos+1,(m*16+dO b) % 18446744073709551616,by simp,rfl,yg,by omega,by omega,by omega,Nat.mod_lt _ ay,H2.out.symm⟩,by simp [intOf];omega⟩
  ·have hd:=hR.out.2;rw [List.drop_eq_nil_of_le (by rw [Hl.out];omega)] at hd;have H:=hid hd;have Hm:=hid hR.out.1;have p2:¬((pos:Int)<(s.size:Int)):=aa;clear hd hR;go_wp2;go_ret2;exact⟨by unfold zU;rw [if_neg (by rw [List.length_drop,Hl.out];omega),←H.out];rfl,hB⟩
theorem OX (s:ByteArray) (h1:(s.size:Int)<3) (h0:(s.size:Int)≤0) (w:World):
  Calls Tryz.prog 74 #[.string s] w fun e w'=>e=.returned (lJ none)∧Below w.heap.size w w':=by
 have hne:s.toList.isEmpty=true:=by
  exact Ms
 go_enter Tryz.func74,Tryz.ntmps74;go_wp2;go_loop [7,8] (fun nv iv=>nv=.int .i64 0∧iv=.int .i64 0) (fun _ _=>0)
 case atStart=>exact⟨rfl,rfl⟩
 case round=>
  obtain⟨rfl,rfl⟩:=hrel;go_wp2;go_ret2;exact⟨rfl,Below.refl _ _⟩
theorem lU (s:ByteArray) (hs:s.size≤140737488355328) (w:World):
  Calls Tryz.prog 74 #[.string s] w fun e w'=>e=.returned (lJ (dY s.data.toList))∧Below w.heap.size w w':=by
 have hl:s.data.toList.length=s.size:=ai;by_cases h:2<s.size
 ·cases h2:((s.extract 0 2).toList==[48,120]) with
  |true=>
   have:=OW s hs aa h2 w;have h5:s.data.toList.take 2=[48,120]:=by rw [←gZ s 2 aa];exact eq_of_beq h2
   have e:dY s.data.toList=(if 16<(s.data.toList.drop 2).length then none else uL (s.data.toList.drop 2) 0):=by
    unfold dY;rw [if_pos ⟨by omega,h5⟩]
   rw [e];exact this
  |false=>
   have:=Jk s hs aa h2 w;exact Vs
 ·by_cases h0:s.size=0
  ·have:=OX s aa aa w;exact Mu
  ·have:=Jm s hs aa aa w;exact Mv
end Go.Proofs.YtbgjanmheagilaaGreatDoor