/- A part of the proof. Conditions: none. -/
import Derived.Outline
import Derived.Test.YtjchnliaglecoaaGreatDoorZz
import Derived.Test.YtjchnliaglecoaaGreatDoorLfBX
import Derived.Test.YtjchnliaglecoaaGreatDoorBaseB
import Derived.Test.YtjchnliaglecoaaGreatDoorDwX
import Derived.Lib.LaidTab
import Derived.Lib.AppendIntMem
set_option linter.unusedVariables false
set_option linter.unusedSimpArgs false
set_option maxRecDepth 100000
set_option maxHeartbeats 8000000
namespace Go.Proofs.YtjchnliaglecoaaGreatDoor
open Go Go.RowKit
theorem wC {f:Nat} {g:Nat→List Value} {v:Nat→Value} {n:Nat} (h:((List.range n).all fun c=>lW f (g c) (v c))=true) (c:Nat) (hc:c<n) (w:World):Calls Tryz.prog f (g c).toArray w fun e w'=>e=.returned (v c)∧Below w.heap.size w w':=
 iT (List.all_eq_true.1 h c (List.mem_range.2 hc)) w
def qM (c:Nat):Nat:=bif Nat.beq (eZ c) 16 then 99 else eZ c
theorem Gu:((List.range 128).all fun c=>lW 228 [.int .i32 c] (.int .u64 (qM c)))=true:=by kernel_rfl
theorem uk (c:Int) (h:128≤c) (h2:c≤2147483647) (w:World):Calls Tryz.prog 228 #[.int .i32 c] w fun e w'=>e=.returned (.int .u64 99)∧Below w.heap.size w w':=by
 go_enter Tryz.func228,Tryz.ntmps228;exact J8
theorem nj (c:Nat) (hc:c<128) (w:World):Calls Tryz.prog 228 #[.int .i32 (c:Int)] w fun e w'=>e=.returned (.int .u64 (qM c))∧Below w.heap.size w w':=wC Gu c hc w
def iU:List UInt8→Nat→Option Nat
 |[],n=>some n
 |b::l,n=>if 9<eZ b.toNat∨(9223372036854775807 - eZ b.toNat) / 10<n then none else iU l (n*10+eZ b.toNat)
def uo:List UInt8→Nat→Option Nat
 |[],n=>some n
 |b::l,n=>if 15<eZ b.toNat then none else uo l ((n*16+eZ b.toNat) % 18446744073709551616)
theorem td (c:Nat):eZ c≤16:=by
 unfold eZ;simp only [cond_eq_ite]
 repeat' split
 all_goals simp_all
 all_goals omega
theorem nr (l:List UInt8) (k:Nat) (hk:k<l.length) (n:Nat):iU (l.drop k) n=if 9<eZ l[k].toNat∨(9223372036854775807 - eZ l[k].toNat) / 10<n then none else iU (l.drop (k+1)) (n*10+eZ l[k].toNat):=by
 exact uq
theorem xo (l:List UInt8) (k:Nat) (hk:k<l.length) (n:Nat):uo (l.drop k) n=if 15<eZ l[k].toNat then none else uo (l.drop (k+1)) ((n*16+eZ l[k].toNat) % 18446744073709551616):=by
 exact uq
def lY:Option Nat→Value
 |some n=>.tuple #[.int .i64 (wrap64 (n:Int)),.bool true]
 |none=>.tuple #[.int .i64 0,.bool false]
theorem th {b:Nat} (h:qM b<17):eZ b=qM b:=by
 unfold qM at*;cases e:Nat.beq (eZ b) 16 with
 |true=>rw [e] at h;simp at h
 |false=>rfl
theorem Fi {b:Nat} (h:16≤qM b):eZ b=16:=by
 unfold qM at*;cases e:Nat.beq (eZ b) 16 with
 |true=>exact Nat.eq_of_beq_eq_true e
 |false=>rw [e] at h;simp only [cond_false] at h;have:=td b;omega
theorem xq {b:Nat} (h:128≤b):eZ b=16:=by
 unfold eZ;simp only [cond_eq_ite];rw [if_neg,if_neg,if_neg]
 all_goals simp only [Bool.and_eq_true,Nat.ble_eq,not_and,Nat.not_le]
 all_goals omega
theorem J9 (s:ByteArray) (hs:s.size≤140737488355328) (h1:(2:Int)<(s.size:Int)) (h2:((s.extract 0 2).toList==[48,120])=false) (w:World):
  Calls Tryz.prog 183 #[.string s] w fun e w'=>e=.returned (lY (iU s.data.toList 0))∧Below w.heap.size w w':=by
 have hl:s.data.toList.length=s.size:=ak;have Hl:=hid hl;have hne:(s.toList==[])=false:=by
  exact ur
 clear hl;go_enter Tryz.func183,Tryz.ntmps183;go_wp2;go_loopw [5] (fun nv wr=>∃(pos m:Nat) (g:fk),nv=.int .u64 m∧wr=grow (w.iter s pos) g∧pos≤s.size∧Hid (m≤9223372036854775807∧iU (s.data.toList.drop pos) m=iU s.data.toList 0)) (fun _ wr=>s.size - wr.iterPos w.heap.size)
 case atStart=>exact⟨0,0,_,rfl,(er _).symm,by omega,by omega,rfl⟩
 case round=>
  obtain⟨pos,m,g,rfl,rfl,hp,hR⟩:=hrel;by_cases hlt:pos<s.size
  ·have hpl:pos<s.data.toList.length:=by rw [Hl.out];exact hlt
   have hd:=nr s.data.toList pos hpl m;rw [hR.out.2] at hd;have hb:s.data.toList[pos]=s[pos]:=gX;rw [hb] at hd;have hm:=hR.out.1;by_cases nH:(s[pos]).toNat<128
   ·have hdec:=decode_ascii s pos hlt nH;have nx:=jO (P:=Tryz.prog) s pos _ (pos+1) hlt AW aa;generalize (s[pos]).toNat=b at*;have H:=hid hd;have Hm:=hid hm;clear hd hm hR hb hdec;go_wp2_with (first
     |(go_at_call 228;refine(nj b nH _).mono ?_;rintro e w' ⟨rfl,hb⟩;obtain⟨g2,rfl⟩:=ay hb;clear hb))
    ·rename_i q1 q2;exact Ka
    ·rename_i q1 q2;exact XJ
    ·rename_i q1;exact XK
   ·exact XL
  ·exact XM
theorem Kb (s:ByteArray) (hs:s.size≤140737488355328) (h1:(s.size:Int)≤2) (h0:(1:Int)≤(s.size:Int)) (w:World):
  Calls Tryz.prog 183 #[.string s] w fun e w'=>e=.returned (lY (iU s.data.toList 0))∧Below w.heap.size w w':=by
 have hl:s.data.toList.length=s.size:=ak;have Hl:=hid hl;have hne:(s.toList==[])=false:=by
  exact ur
 clear hl;go_enter Tryz.func183,Tryz.ntmps183;go_wp2;go_loopw [5] (fun nv wr=>∃(pos m:Nat) (g:fk),nv=.int .u64 m∧wr=grow (w.iter s pos) g∧pos≤s.size∧Hid (m≤9223372036854775807∧iU (s.data.toList.drop pos) m=iU s.data.toList 0)) (fun _ wr=>s.size - wr.iterPos w.heap.size)
 case atStart=>exact⟨0,0,_,rfl,(er _).symm,by omega,by omega,rfl⟩
 case round=>
  obtain⟨pos,m,g,rfl,rfl,hp,hR⟩:=hrel;by_cases hlt:pos<s.size
  ·have hpl:pos<s.data.toList.length:=by rw [Hl.out];exact hlt
   have hd:=nr s.data.toList pos hpl m;rw [hR.out.2] at hd;have hb:s.data.toList[pos]=s[pos]:=gX;rw [hb] at hd;have hm:=hR.out.1;by_cases nH:(s[pos]).toNat<128
   ·have hdec:=decode_ascii s pos hlt nH;have nx:=jO (P:=Tryz.prog) s pos _ (pos+1) hlt AW aa;generalize (s[pos]).toNat=b at*;have H:=hid hd;have Hm:=hid hm;clear hd hm hR hb hdec;go_wp2_with (first
     |(go_at_call 228;refine(nj b nH _).mono ?_;rintro e w' ⟨rfl,hb⟩;obtain⟨g2,rfl⟩:=ay hb;clear hb))
    ·rename_i q1 q2;exact Ka
    ·rename_i q1 q2;exact XJ
    ·rename_i q1;exact XK
   ·exact XL
  ·exact XM
end Go.Proofs.YtjchnliaglecoaaGreatDoor
/- A part of the proof. Conditions: none. -/
set_option maxRecDepth 100000
set_option maxHeartbeats 8000000
namespace Go.Proofs.YtjchnliaglecoaaGreatDoor
open Go Go.RowKit
def yV (l:List UInt8):Value:=lY (if 16<l.length then none else uo l 0)
theorem G5 (w:World) (t:ByteArray) (p:Nat):w.drew.iter t p=grow (w.iter t p) ⟨#[],w.drew.drawn⟩:=by
 simp only [grow,World.iter];show World.alloc _ _=_;simp only [World.alloc,Array.append_empty];rfl
theorem A9 (m d:Nat):IntKind.u64.wrap (IntKind.u64.wrap ((m:Int)*16)+(d:Int))=(((m*16+d) % 18446744073709551616:Nat):Int):=by
 rw [IntKind.wrap_u64,IntKind.wrap_u64];omega
theorem RP (s t:ByteArray) (hs:s.size≤140737488355328) (h1:(2:Int)<(s.size:Int)) (h2:((s.extract 0 2).toList==[48,120])=true) (ht:s.extract 2 s.size=t) (w:World):
  Calls Tryz.prog 183 #[.string s] w fun e w'=>e=.returned (yV t.data.toList)∧Below w.heap.size w w':=by
 have hl:t.data.toList.length=t.size:=ak;have Hl:=hid hl;have wj:t.size=s.size - 2:=by rw [←ht];simp
 have hne:(t.toList==[])=false:=by
  rw [ByteArray.toList_eq];cases e:t.data.toList with
  |nil=>rw [e] at hl;simp at hl;omega
  |cons x l=>rfl
 have h3:(1:Int)≤(t.size:Int):=aa;have h4:t.size≤140737488355328:=aa;clear hl wj;go_enter Tryz.func183,Tryz.ntmps183;go_wp2;go_region;go_wp2;rw [G5];go_loopw [5] (fun nv wr=>∃(pos m:Nat) (g:fk),nv=.int .u64 m∧wr=grow (w.iter t pos) g∧pos≤t.size∧Hid (m<18446744073709551616∧uo (t.data.toList.drop pos) m=uo t.data.toList 0)) (fun _ wr=>t.size - wr.iterPos w.heap.size)
 case atStart=>exact⟨0,0,_,rfl,rfl,by omega,by omega,rfl⟩
 case round=>
  obtain⟨pos,m,g,rfl,rfl,hp,hR⟩:=hrel;by_cases hlt:pos<t.size
  ·have hpl:pos<t.data.toList.length:=by rw [Hl.out];exact hlt
   have hd:=xo t.data.toList pos hpl m;rw [hR.out.2] at hd;have hb:t.data.toList[pos]=t[pos]:=gX;rw [hb] at hd;have hm:=hR.out.1;by_cases nH:(t[pos]).toNat<128
   ·have hdec:=decode_ascii t pos hlt nH;have nx:=jO (P:=Tryz.prog) t pos _ (pos+1) hlt AW aa;generalize (t[pos]).toNat=b at*;have H:=hid hd;have Hm:=hid hm;clear hd hm hR hb hdec;by_cases q1:16≤qM b
    ·have q1':(16:Int)≤(qM b:Int):=by omega
     have hd:=H.out;rw [if_pos (by have:=Fi q1;omega)] at hd;have H2:=hid hd;clear hd;go_wp2_with (first
      |(go_at_call 228;refine(nj b nH _).mono ?_;rintro e w' ⟨rfl,hb⟩;obtain⟨g2,rfl⟩:=ay hb;clear hb))
     go_ret2;exact⟨by unfold yV;rw [H2.out];split<;>rfl,dX⟩
    ·have q1':(qM b:Int)<16:=by omega
     have e:=th (b:=b) aa;have hd:=H.out;rw [if_neg aa] at hd;have H2:=hid hd;have E:=hid e;clear hd e;go_wp2_with (first
      |(go_at_call 228;refine(nj b nH _).mono ?_;rintro e w' ⟨rfl,hb⟩;obtain⟨g2,rfl⟩:=ay hb;clear hb))
     rw [A9];refine⟨⟨pos+1,(m*16+qM b) % 18446744073709551616,_,rfl,rfl,by omega,Nat.mod_lt _ ai,by rw [←E.out];exact H2.out.symm⟩, ?_⟩;exact Fx
   ·have hh:=decode_high t pos hlt aa;have JL:=decode_le t pos;have nx:=tv (P:=Tryz.prog) t pos (Utf8.decode t pos).1 (Utf8.decode t pos).2 hlt rfl;rw [if_pos (by have:=xq (b:=(t[pos]).toNat) aa;omega)] at hd;generalize (Utf8.decode t pos).1=b at*;generalize (Utf8.decode t pos).2=wd at*;have k1:=hh.1;have H:=hid hd;have Hm:=hid hm;clear hd hm hR hb hh;go_wp2_with (first
     |(go_at_call 228;refine(uk b aa aa _).mono ?_;rintro e w' ⟨rfl,hb⟩;obtain⟨g2,rfl⟩:=ay hb;clear hb))
    go_ret2;exact⟨by unfold yV;rw [H.out];split<;>rfl,dX⟩
  ·have nx:=js (P:=Tryz.prog) t pos hlt;have hd:=hR.out.2;rw [List.drop_eq_nil_of_le (by rw [Hl.out];omega)] at hd;have H:=hid hd;have Hm:=hid hR.out.1;clear hd hR;by_cases q:16<t.size
   ·have q1:(16:Int)<(t.size:Int):=by omega
    go_wp2;go_ret2;exact⟨by unfold yV;rw [if_pos (by rw [Hl.out];exact q)];rfl,dX⟩
   ·have q1:(t.size:Int)≤16:=by omega
    go_wp2;go_ret2;exact⟨by unfold yV;rw [if_neg (by rw [Hl.out];exact q),←H.out];rfl,dX⟩
def fy (l:List UInt8):Option Nat:=
 if 2<l.length∧l.take 2=[48,120] then(if 16<(l.drop 2).length then none else uo (l.drop 2) 0) else if l=[] then none else iU l 0
theorem RQ (s:ByteArray) (h1:(s.size:Int)≤2) (h0:(s.size:Int)=0) (w:World):
  Calls Tryz.prog 183 #[.string s] w fun e w'=>e=.returned (lY none)∧Below w.heap.size w w':=by
 have hne:(s.toList==[])=true:=by
  exact KW
 have nx:=pU (P:=Tryz.prog) s 0 aa;clear h0;go_enter Tryz.func183,Tryz.ntmps183;go_wp2;go_loopw [5] (fun nv wr=>nv=.int .u64 0∧wr=w.iter s 0) (fun _ _=>0)
 case atStart=>exact⟨rfl,rfl⟩
 case round=>
  obtain⟨rfl,rfl⟩:=hrel;go_wp2;go_ret2;exact Mm
theorem iA (s:ByteArray) (n:Nat) (h:n≤s.size):(s.extract 0 n).toList=s.data.toList.take n:=by
 rw [ByteArray.toList_eq];simp
theorem kD (s:ByteArray) (n:Nat):(s.extract n s.size).data.toList=s.data.toList.drop n:=by
 simp;exact List.take_of_length_le ak
theorem oN (s:ByteArray) (hs:s.size≤140737488355328) (w:World):
  Calls Tryz.prog 183 #[.string s] w fun e w'=>e=.returned (lY (fy s.data.toList))∧Below w.heap.size w w':=by
 have hl:s.data.toList.length=s.size:=ak;by_cases h:2<s.size
 ·cases h2:((s.extract 0 2).toList==[48,120]) with
  |true=>
   have:=RP s _ hs aa h2 rfl w;have e:fy s.data.toList=(if 16<(s.data.toList.drop 2).length then none else uo (s.data.toList.drop 2) 0):=by
    have h5:s.data.toList.take 2=[48,120]:=by rw [←iA s 2 aa];exact eq_of_beq h2
    unfold fy;rw [if_pos ⟨by omega,h5⟩]
   rw [e,←kD];exact this
  |false=>
   have:=J9 s hs aa h2 w;exact XY
 ·by_cases h0:s.size=0
  ·have:=RQ s aa aa w;exact KX
  ·have:=Kb s hs aa aa w;exact KY
end Go.Proofs.YtjchnliaglecoaaGreatDoor
/- A part of the proof. Conditions: none. -/
set_option maxRecDepth 100000
set_option maxHeartbeats 8000000
namespace Go.Proofs.YtjchnliaglecoaaGreatDoor
open Go Go.RowKit
theorem GG (m d:Nat):IntKind.u64.wrap (IntKind.u64.wrap (16*(m:Int))+(d:Int))=(((m*16+d) % 18446744073709551616:Nat):Int):=by
 rw [show 16*(m:Int)=(m:Int)*16 by omega];exact A9 m d
theorem gL (c:Nat) (hc:c<256) (w:World):Calls Tryz.prog 171 #[.int .u8 (c:Int)] w fun e w'=>e=.returned (.int .i64 (eZ c))∧Below w.heap.size w w':=wC Df c hc w
theorem GH {m:Nat} (h:m≤9223372036854775807):lY (some m)=.tuple #[.int .i64 (m:Int),.bool true]:=by
 show Value.tuple #[.int .i64 (wrap64 (m:Int)),.bool true]=_;rw [IntWalk.wrap64_in (m:Int) aa]
theorem GI (s:ByteArray) (hs:s.size≤140737488355328) (h1:(3:Int)≤(s.size:Int)) (h2:((s.extract 0 2).toList==[48,120])=false) (w:World):
  Calls Tryz.prog 117 #[.string s] w fun e w'=>e=.returned (lY (iU s.data.toList 0))∧Below w.heap.size w w':=by
 have hl:s.data.toList.length=s.size:=ak;have Hl:=hid hl;have hne:s.toList.isEmpty=false:=by
  exact ur
 clear hl;go_enter Tryz.func117,Tryz.ntmps117;go_wp2;go_loopw [7,8] (fun nv iv wr=>∃(pos m:Nat),iv=.int .i64 pos∧nv=.int .i64 m∧Below w.heap.size w wr∧pos≤s.size∧Hid (m≤9223372036854775807∧iU (s.data.toList.drop pos) m=iU s.data.toList 0)) (fun _ iv _=>s.size - (intOf iv).toNat)
 case atStart=>exact⟨0,0,rfl,rfl,Below.refl _ _,by omega,by omega,rfl⟩
 case round=>
  obtain⟨pos,m,rfl,rfl,hB,hp,hR⟩:=hrel;by_cases hlt:pos<s.size
  ·have hpl:pos<s.data.toList.length:=by rw [Hl.out];exact hlt
   have hd:=nr s.data.toList pos hpl m;rw [hR.out.2] at hd;have hb:s.data.toList[pos]=s[pos]:=gX;rw [hb] at hd;have hm:=hR.out.1;have p0:(0:Int)≤(pos:Int):=aa;have p1:(pos:Int)<(s.size:Int):=aa;have fE:(s[pos]).toNat<256:=(s[pos]).toNat_lt;obtain⟨b,sZ⟩:∃b,(s[pos]).toNat=b:=⟨_,rfl⟩;rw [sZ] at hd fE;have hle:=td b;have H:=hid hd;have Hm:=hid hm;have HB:=hid hB;clear hd hm hR hb hB;by_cases q1:9<eZ b
   ·exact XV
   ·have q1':(eZ b:Int)≤9:=by omega
    go_wp2_with (first
     |(go_at_call 171;((with_reducible refine(gL b fE _).mono ?_));rintro e w' ⟨rfl,hb⟩;obtain⟨g2,rfl⟩:=ay hb;clear hb))
    ·rename_i q;exact KT
    ·rename_i q;exact XW
  ·exact XX
theorem GJ (s:ByteArray) (hs:s.size≤140737488355328) (h1:(s.size:Int)<3) (h0:(1:Int)≤(s.size:Int)) (w:World):
  Calls Tryz.prog 117 #[.string s] w fun e w'=>e=.returned (lY (iU s.data.toList 0))∧Below w.heap.size w w':=by
 have hl:s.data.toList.length=s.size:=ak;have Hl:=hid hl;have hne:s.toList.isEmpty=false:=by
  exact ur
 clear hl;go_enter Tryz.func117,Tryz.ntmps117;go_wp2;go_loopw [7,8] (fun nv iv wr=>∃(pos m:Nat),iv=.int .i64 pos∧nv=.int .i64 m∧Below w.heap.size w wr∧pos≤s.size∧Hid (m≤9223372036854775807∧iU (s.data.toList.drop pos) m=iU s.data.toList 0)) (fun _ iv _=>s.size - (intOf iv).toNat)
 case atStart=>exact⟨0,0,rfl,rfl,Below.refl _ _,by omega,by omega,rfl⟩
 case round=>
  obtain⟨pos,m,rfl,rfl,hB,hp,hR⟩:=hrel;by_cases hlt:pos<s.size
  ·have hpl:pos<s.data.toList.length:=by rw [Hl.out];exact hlt
   have hd:=nr s.data.toList pos hpl m;rw [hR.out.2] at hd;have hb:s.data.toList[pos]=s[pos]:=gX;rw [hb] at hd;have hm:=hR.out.1;have p0:(0:Int)≤(pos:Int):=aa;have p1:(pos:Int)<(s.size:Int):=aa;have fE:(s[pos]).toNat<256:=(s[pos]).toNat_lt;obtain⟨b,sZ⟩:∃b,(s[pos]).toNat=b:=⟨_,rfl⟩;rw [sZ] at hd fE;have hle:=td b;have H:=hid hd;have Hm:=hid hm;have HB:=hid hB;clear hd hm hR hb hB;by_cases q1:9<eZ b
   ·exact XV
   ·have q1':(eZ b:Int)≤9:=by omega
    go_wp2_with (first
     |(go_at_call 171;((with_reducible refine(gL b fE _).mono ?_));rintro e w' ⟨rfl,hb⟩;obtain⟨g2,rfl⟩:=ay hb;clear hb))
    ·rename_i q;exact KT
    ·rename_i q;exact XW
  ·exact XX
theorem KU (s:ByteArray) (hs:s.size≤140737488355328) (h1:(3:Int)≤(s.size:Int)) (h2:((s.extract 0 2).toList==[48,120])=true) (w:World):
  Calls Tryz.prog 117 #[.string s] w fun e w'=>e=.returned (yV (s.data.toList.drop 2))∧Below w.heap.size w w':=by
 have hl:s.data.toList.length=s.size:=ak;have Hl:=hid hl;have hne:s.toList.isEmpty=false:=by
  exact ur
 clear hl;go_enter Tryz.func117,Tryz.ntmps117;go_wp2;go_loopw [4,5] (fun nv iv wr=>∃(pos m:Nat),iv=.int .i64 pos∧nv=.int .u64 m∧Below w.heap.size w wr∧pos≤s.size∧2≤pos∧pos≤18∧Hid (m<18446744073709551616∧uo (s.data.toList.drop pos) m=uo (s.data.toList.drop 2) 0)) (fun _ iv _=>s.size - (intOf iv).toNat)
 case atStart=>exact⟨2,0,rfl,rfl,Below.refl _ _,by omega,by omega,by omega,by omega,rfl⟩
 case round=>
  obtain⟨pos,m,rfl,rfl,hB,hp,QG,amI,hR⟩:=hrel;by_cases hlt:pos<s.size
  ·have hpl:pos<s.data.toList.length:=by rw [Hl.out];exact hlt
   have hd:=xo s.data.toList pos hpl m;rw [hR.out.2] at hd;have hb:s.data.toList[pos]=s[pos]:=gX;rw [hb] at hd;have hm:=hR.out.1;have p0:(0:Int)≤(pos:Int):=aa;have p1:(pos:Int)<(s.size:Int):=aa;have fE:(s[pos]).toNat<256:=(s[pos]).toNat_lt;obtain⟨b,sZ⟩:∃b,(s[pos]).toNat=b:=⟨_,rfl⟩;rw [sZ] at hd fE;have hle:=td b;have H:=hid hd;have Hm:=hid hm;have HB:=hid hB;clear hd hm hR hb hB;by_cases q1:15<eZ b
   ·have q1':(15:Int)<(eZ b:Int):=by omega
    have hd:=H.out;rw [if_pos q1] at hd;have H2:=hid hd;clear hd;go_wp2_with (first
     |(go_at_call 171;((with_reducible refine(gL b fE _).mono ?_));rintro e w' ⟨rfl,hb⟩;obtain⟨g2,rfl⟩:=ay hb;clear hb))
    go_ret2;exact⟨by unfold yV;rw [H2.out];split<;>rfl,xz⟩
   ·have q1':(eZ b:Int)≤15:=by omega
    have hd:=H.out;rw [if_neg q1] at hd;have H2:=hid hd;clear hd;by_cases q2:17<pos
    ·have q2':(17:Int)<(pos:Int):=by omega
     go_wp2_with (first
      |(go_at_call 171;((with_reducible refine(gL b fE _).mono ?_));rintro e w' ⟨rfl,hb⟩;obtain⟨g2,rfl⟩:=ay hb;clear hb))
     go_ret2;exact⟨by unfold yV;rw [if_pos (by rw [List.length_drop,Hl.out];omega)];rfl,xz⟩
    ·have q2':(pos:Int)≤17:=by omega
     go_wp2_with (first
      |(go_at_call 171;((with_reducible refine(gL b fE _).mono ?_));rintro e w' ⟨rfl,hb⟩;obtain⟨g2,rfl⟩:=ay hb;clear hb))
     rw [GG];exact⟨⟨pos+1,(m*16+eZ b) % 18446744073709551616,by simp,rfl,xz,by omega,by omega,by omega,Nat.mod_lt _ ai,H2.out.symm⟩,by simp [intOf];omega⟩
  ·have hd:=hR.out.2;rw [List.drop_eq_nil_of_le (by rw [Hl.out];omega)] at hd;have H:=hid hd;have Hm:=hid hR.out.1;have p2:¬((pos:Int)<(s.size:Int)):=aa;clear hd hR;go_wp2;go_ret2;exact⟨by unfold yV;rw [if_neg (by rw [List.length_drop,Hl.out];omega),←H.out];rfl,hB⟩
theorem KV (s:ByteArray) (h1:(s.size:Int)<3) (h0:(s.size:Int)≤0) (w:World):
  Calls Tryz.prog 117 #[.string s] w fun e w'=>e=.returned (lY none)∧Below w.heap.size w w':=by
 have hne:s.toList.isEmpty=true:=by
  exact KW
 go_enter Tryz.func117,Tryz.ntmps117;go_wp2;go_loop [7,8] (fun nv iv=>nv=.int .i64 0∧iv=.int .i64 0) (fun _ _=>0)
 case atStart=>exact⟨rfl,rfl⟩
 case round=>
  obtain⟨rfl,rfl⟩:=hrel;go_wp2;go_ret2;exact⟨rfl,Below.refl _ _⟩
theorem lZ (s:ByteArray) (hs:s.size≤140737488355328) (w:World):
  Calls Tryz.prog 117 #[.string s] w fun e w'=>e=.returned (lY (fy s.data.toList))∧Below w.heap.size w w':=by
 have hl:s.data.toList.length=s.size:=ak;by_cases h:2<s.size
 ·cases h2:((s.extract 0 2).toList==[48,120]) with
  |true=>
   have:=KU s hs aa h2 w;have h5:s.data.toList.take 2=[48,120]:=by rw [←iA s 2 aa];exact eq_of_beq h2
   have e:fy s.data.toList=(if 16<(s.data.toList.drop 2).length then none else uo (s.data.toList.drop 2) 0):=by
    unfold fy;rw [if_pos ⟨by omega,h5⟩]
   rw [e];exact this
  |false=>
   have:=GI s hs aa h2 w;exact XY
 ·by_cases h0:s.size=0
  ·have:=KV s aa aa w;exact KX
  ·have:=GJ s hs aa aa w;exact KY
end Go.Proofs.YtjchnliaglecoaaGreatDoor
/- A part of the proof. Conditions: none. -/
set_option maxRecDepth 100000
set_option maxHeartbeats 8000000
namespace Go.Proofs.YtjchnliaglecoaaGreatDoor
open Go Go.RowKit Go.Am
theorem abC:((List.range 37).all fun k=>Nat.beq k 0||letters.all fun c=>lW 113 [.int .i64 k,.int .u8 c] (.bool (nG k c)))=true:=by kernel_rfl
end Go.Proofs.YtjchnliaglecoaaGreatDoor
/- A part of the proof. Conditions: none. -/
set_option maxRecDepth 100000
set_option maxHeartbeats 8000000
namespace Go.Proofs.YtjchnliaglecoaaGreatDoor
open Go Go.RowKit
structure cu (w:World):Prop where
 pow : Lib.TabIs Tryz.prog w "internal/strconv.uint64pow10" .u64 Lib.pow10Tab
 asc : Lib.TabIs Tryz.prog w "strings.asciiSpace" .u8 Lib.asciiSpaceTab
 max:∃m,w.cell? ⟨0,0,none⟩=some (.int .i64 m)
theorem yu {w w':World} {name:String} {cs:Array Value} (h:w.var? Tryz.prog name=some cs) (hb:Below w.heap.size w w'):w'.var? Tryz.prog name=some cs:=by
 unfold World.var? at*;cases hg:Tryz.prog.globalNamed name with
 |none=>rw [hg] at h;cases h
 |some g=>
  rw [hg] at h;simp only [Option.bind_some] at h ⊢;have hlt:g<w.heap.size:=by
   rcases Nat.lt_or_ge g w.heap.size with h'|h'
   ·exact h'
   ·rw [Array.getElem?_eq_none h'] at h;cases h
  rw [hb.block g hlt];exact h
theorem cu.later {w w':World} (h:cu w) (hb:Below w.heap.size w w'):cu w':=
 ⟨yu h.pow hb,yu h.asc hb,let ⟨m,hm⟩:=h.max;⟨m,cell_later hb hm⟩⟩
def thrown:List PanicEntry:=[{v:=.iface 170 (.agg #[]),recovered:=false}]
theorem dU (w:World):Calls Tryz.prog 139 #[.bool true] w fun e w'=>e=.returned (.tuple #[])∧w'=w:=by
 go_enter Tryz.func139,Tryz.ntmps139;exact Bo
theorem gW (w:World):Calls Tryz.prog 139 #[.bool false] w fun e w'=>e=.panicked thrown∧w'=w:=by
 go_enter Tryz.func139,Tryz.ntmps139;go_wp2;exact⟨rfl,rfl,rfl⟩
def cP (b:Bool):Ending:=if b then .returned (.tuple #[]) else .panicked thrown
theorem TE (n:Int) (h0:-9223372036854775808≤n) (h1:n≤9223372036854775807) (w:World) (hl:cu w):
  Calls Tryz.prog 157 #[.int .i64 n,.int .i64 10] w fun e w'=>e=.returned (.string ⟨(Lib.itoa n).toArray⟩)∧Below w.heap.size w w':=
 (Tryz.strconv_FormatInt_10 n h0 h1 w hl.pow).mono fun e w' ⟨he,k,os,hw⟩=>⟨he,by rw [hw];exact Lib.below_grow _ _ (Nat.le_refl _) _ _⟩
theorem Ar {fn:Func} {t u v x:Tmp} (h:fn.results=#[.tmp t,.tmp u,.tmp v,.tmp x]) (tmps:Array Value) (P:Program) (w:World):
  (results fn tmps).run P w=.ok (.tuple #[tmps.getD t undef,tmps.getD u undef,tmps.getD v undef,tmps.getD x undef]) w:=by
 simp [results,h]
theorem jY (n:Int) (h0:-9223372036854775808≤n) (h1:n≤9223372036854775807) (w:World) (hl:cu w):
  Calls Tryz.prog 184 #[.int .i64 n] w fun e w'=>e=.returned (.string ⟨(Lib.itoa n).toArray⟩)∧Below w.heap.size w w':=by
 go_enter Tryz.func184,Tryz.ntmps184;exact Oc
theorem ID (n:Int) (h0:-9223372036854775808≤n) (h1:n≤9223372036854775807) (w:World) (hl:cu w):
  Calls Tryz.prog 107 #[.int .i64 n] w fun e w'=>e=.returned (.string ⟨(Lib.itoa n).toArray⟩)∧Below w.heap.size w w':=by
 go_enter Tryz.func107,Tryz.ntmps107;exact Oc
theorem I1 (k:Nat) (hk:k<37) (w:World):Calls Tryz.prog 226 #[.int .i64 (k:Int)] w fun e w'=>e=.returned (.string ⟨(E4 k).toArray⟩)∧Below w.heap.size w w':=wC I2 k hk w
theorem E5:((List.range 37).all fun k=>Nat.beq k 0||letters.all fun c=>decide (decide (0≤Lib.indexByte (E4 k) c.toUInt8)=nG k c))=true:=by decide+kernel
theorem BU (k c:Nat) (h0:0<k) (hk:k<37) (hc:c∈letters) (w:World):Calls Tryz.prog 180 #[.int .i64 (k:Int),.int .i32 (c:Int)] w fun e w'=>e=.returned (.bool (nG k c))∧Below w.heap.size w w':=by
 have h1:=List.all_eq_true.1 E5 k (List.mem_range.2 hk);rw [show Nat.beq k 0=false by cases e:Nat.beq k 0 with
  |true=>have:=Nat.eq_of_beq_eq_true e;omega
  |false=>rfl] at h1
 simp only [Bool.false_or] at h1;have h2:=of_decide_eq_true (List.all_eq_true.1 h1 c hc);have hc2:c<128:=by
  have:letters.all (fun c=>decide (c<128))=true:=ai;exact of_decide_eq_true (List.all_eq_true.1 this c hc)
 have H2:=hid h2;clear h1 h2 hc;go_enter Tryz.func180,Tryz.ntmps180;go_wp2_with (first
  |(go_at_call 226;refine(I1 k hk _).mono ?_;rintro e w' ⟨rfl,hb⟩;obtain⟨g1,rfl⟩:=ay hb;clear hb)
  |(go_at_call 225;refine(Tryz.strings_ContainsRune_ascii _ _ _ aa aa).mono ?_;rintro e w' ⟨rfl,rfl⟩))
 go_ret;refine⟨?_,bG (Below.refl _ _) _⟩;rw [←H2.out];simp
theorem OD (k c:Nat) (h0:0<k) (hk:k<37) (hc:c∈letters) (w:World):Calls Tryz.prog 113 #[.int .i64 (k:Int),.int .u8 (c:Int)] w fun e w'=>e=.returned (.bool (nG k c))∧Below w.heap.size w w':=by
 have h1:=List.all_eq_true.1 abC k (List.mem_range.2 hk);rw [show Nat.beq k 0=false by cases e:Nat.beq k 0 with
  |true=>have:=Nat.eq_of_beq_eq_true e;omega
  |false=>rfl] at h1
 simp only [Bool.false_or] at h1;exact iT (List.all_eq_true.1 h1 c hc) w
theorem Ie (w:World):Calls Tryz.prog 89 #[] w fun e w'=>e=.returned vn∧Below w.heap.size w w':=iT I3 w
theorem Cf (k:Nat) (hk:k<37) (w:World):Calls Tryz.prog 112 #[.int .i64 (k:Int)] w fun e w'=>e=.returned (ER k)∧Below w.heap.size w w':=wC I4 k hk w
theorem IM (k:Int) (hk:k<0∨36<k) (w:World):Calls Tryz.prog 112 #[.int .i64 k] w fun e w'=>e=.returned (.tuple #[str [],str [],str [],.bool false])∧Below w.heap.size w w':=by
 rcases hk with hk|hk
 all_goals
  go_enter Tryz.func112,Tryz.ntmps112;go_wp2;refine bodyPost_ret (Ar rfl _ _ _) rfl ?_;exact⟨rfl,Below.refl _ _⟩
end Go.Proofs.YtjchnliaglecoaaGreatDoor