/- A part of the proof. Conditions: none. -/
import Derived.Outline
import Derived.Test.YtjchnliaglecoaaGreatDoorZz
import Derived.Test.YtjchnliaglecoaaGreatDoorLfBX
import Derived.Test.YtjchnliaglecoaaGreatDoorBaseB
import Derived.Test.YtjchnliaglecoaaGreatDoorDwX
import Derived.Lib.LaidTab
import Derived.Lib.AppendIntMem
set_option linter.unusedVariables false
set_option linter.unusedSimpArgs false
set_option maxRecDepth 100000
set_option maxHeartbeats 8000000
namespace Go.Proofs.YtjchnliaglecoaaGreatDoor
open Go Go.RowKit
theorem uR {f:Nat} {g:Nat→List Value} {v:Nat→Value} {n:Nat} (h:((List.range n).all fun c=>mX f (g c) (v c))=true) (c:Nat) (hc:c<n) (w:World):Calls Tryz.prog f (g c).toArray w fun e w'=>e=.returned (v c)∧Below w.heap.size w w':=
 kY (List.all_eq_true.1 h c (List.mem_range.2 hc)) w
def uS (c:Nat):Nat:=bif Nat.beq (gw c) 16 then 99 else gw c
theorem MV:((List.range 128).all fun c=>mX 228 [.int .i32 c] (.int .u64 (uS c)))=true:=by kernel_rfl
theorem x9 (c:Int) (h:128≤c) (h2:c≤2147483647) (w:World):Calls Tryz.prog 228 #[.int .i32 c] w fun e w'=>e=.returned (.int .u64 99)∧Below w.heap.size w w':=by
 go_enter Tryz.func228,Tryz.ntmps228;exact Pw
theorem qE (c:Nat) (hc:c<128) (w:World):Calls Tryz.prog 228 #[.int .i32 (c:Int)] w fun e w'=>e=.returned (.int .u64 (uS c))∧Below w.heap.size w w':=uR MV c hc w
def kZ:List UInt8→Nat→Option Nat
 |[],n=>some n
 |b::l,n=>if 9<gw b.toNat∨(9223372036854775807 - gw b.toNat) / 10<n then none else kZ l (n*10+gw b.toNat)
def ya:List UInt8→Nat→Option Nat
 |[],n=>some n
 |b::l,n=>if 15<gw b.toNat then none else ya l ((n*16+gw b.toNat) % 18446744073709551616)
theorem xG (c:Nat):gw c≤16:=by
 unfold gw;simp only [cond_eq_ite]
 repeat' split
 all_goals simp_all
 all_goals omega
theorem qF (l:List UInt8) (k:Nat) (hk:k<l.length) (n:Nat):kZ (l.drop k) n=if 9<gw l[k].toNat∨(9223372036854775807 - gw l[k].toNat) / 10<n then none else kZ (l.drop (k+1)) (n*10+gw l[k].toNat):=by
 exact yb
theorem Bi (l:List UInt8) (k:Nat) (hk:k<l.length) (n:Nat):ya (l.drop k) n=if 15<gw l[k].toNat then none else ya (l.drop (k+1)) ((n*16+gw l[k].toNat) % 18446744073709551616):=by
 exact yb
def pN:Option Nat→Value
 |some n=>.tuple #[.int .i64 (wrap64 (n:Int)),.bool true]
 |none=>.tuple #[.int .i64 0,.bool false]
theorem xH {b:Nat} (h:uS b<17):gw b=uS b:=by
 unfold uS at*;cases e:Nat.beq (gw b) 16 with
 |true=>rw [e] at h;simp at h
 |false=>rfl
theorem Lc {b:Nat} (h:16≤uS b):gw b=16:=by
 unfold uS at*;cases e:Nat.beq (gw b) 16 with
 |true=>exact Nat.eq_of_beq_eq_true e
 |false=>rw [e] at h;simp only [cond_false] at h;have:=xG b;omega
theorem Bj {b:Nat} (h:128≤b):gw b=16:=by
 unfold gw;simp only [cond_eq_ite];rw [if_neg,if_neg,if_neg]
 all_goals simp only [Bool.and_eq_true,Nat.ble_eq,not_and,Nat.not_le]
 all_goals omega
theorem Px (s:ByteArray) (hs:s.size≤140737488355328) (h1:(2:Int)<(s.size:Int)) (h2:((s.extract 0 2).toList==[48,120])=false) (w:World):
  Calls Tryz.prog 183 #[.string s] w fun e w'=>e=.returned (pN (kZ s.data.toList 0))∧Below w.heap.size w w':=by
 have hl:s.data.toList.length=s.size:=ak;have Hl:=hid hl;have hne:(s.toList==[])=false:=by
  exact ye
 clear hl;go_enter Tryz.func183,Tryz.ntmps183;go_wp2;go_loopw [5] (fun nv wr=>∃(pos m:Nat) (g:gQ),nv=.int .u64 m∧wr=grow (w.iter s pos) g∧pos≤s.size∧Hid (m≤9223372036854775807∧kZ (s.data.toList.drop pos) m=kZ s.data.toList 0)) (fun _ wr=>s.size - wr.iterPos w.heap.size)
 case atStart=>exact⟨0,0,_,rfl,(eZ _).symm,by omega,by omega,rfl⟩
 case round=>
  obtain⟨pos,m,g,rfl,rfl,hp,hR⟩:=hrel;by_cases hlt:pos<s.size
  ·have hpl:pos<s.data.toList.length:=by rw [Hl.out];exact hlt
   have hd:=qF s.data.toList pos hpl m;rw [hR.out.2] at hd;have hb:s.data.toList[pos]=s[pos]:=k6;rw [hb] at hd;have hm:=hR.out.1;by_cases qQ:(s[pos]).toNat<128
   ·have hdec:=decode_ascii s pos hlt qQ;have nx:=mY (P:=Tryz.prog) s pos _ (pos+1) hlt EU af;generalize (s[pos]).toNat=b at*;have H:=hid hd;have Hm:=hid hm;clear hd hm hR hb hdec;go_wp2_with (first
     |(go_at_call 228;refine(qE b qQ _).mono ?_;rintro e w' ⟨rfl,hb⟩;obtain⟨g2,rfl⟩:=aC hb;clear hb))
    ·rename_i q1 q2;exact Py
    ·rename_i q1 q2;exact Pz
    ·rename_i q1;exact PA
   ·exact acL
  ·exact acM
theorem PB (s:ByteArray) (hs:s.size≤140737488355328) (h1:(s.size:Int)≤2) (h0:(1:Int)≤(s.size:Int)) (w:World):
  Calls Tryz.prog 183 #[.string s] w fun e w'=>e=.returned (pN (kZ s.data.toList 0))∧Below w.heap.size w w':=by
 have hl:s.data.toList.length=s.size:=ak;have Hl:=hid hl;have hne:(s.toList==[])=false:=by
  exact ye
 clear hl;go_enter Tryz.func183,Tryz.ntmps183;go_wp2;go_loopw [5] (fun nv wr=>∃(pos m:Nat) (g:gQ),nv=.int .u64 m∧wr=grow (w.iter s pos) g∧pos≤s.size∧Hid (m≤9223372036854775807∧kZ (s.data.toList.drop pos) m=kZ s.data.toList 0)) (fun _ wr=>s.size - wr.iterPos w.heap.size)
 case atStart=>exact⟨0,0,_,rfl,(eZ _).symm,by omega,by omega,rfl⟩
 case round=>
  obtain⟨pos,m,g,rfl,rfl,hp,hR⟩:=hrel;by_cases hlt:pos<s.size
  ·have hpl:pos<s.data.toList.length:=by rw [Hl.out];exact hlt
   have hd:=qF s.data.toList pos hpl m;rw [hR.out.2] at hd;have hb:s.data.toList[pos]=s[pos]:=k6;rw [hb] at hd;have hm:=hR.out.1;by_cases qQ:(s[pos]).toNat<128
   ·have hdec:=decode_ascii s pos hlt qQ;have nx:=mY (P:=Tryz.prog) s pos _ (pos+1) hlt EU af;generalize (s[pos]).toNat=b at*;have H:=hid hd;have Hm:=hid hm;clear hd hm hR hb hdec;go_wp2_with (first
     |(go_at_call 228;refine(qE b qQ _).mono ?_;rintro e w' ⟨rfl,hb⟩;obtain⟨g2,rfl⟩:=aC hb;clear hb))
    ·rename_i q1 q2;exact Py
    ·rename_i q1 q2;exact Pz
    ·rename_i q1;exact PA
   ·exact acL
  ·exact acM
end Go.Proofs.YtjchnliaglecoaaGreatDoor

/- A part of the proof. Conditions: none. -/
set_option maxRecDepth 100000
set_option maxHeartbeats 8000000
namespace Go.Proofs.YtjchnliaglecoaaGreatDoor
open Go Go.RowKit
def C1 (l:List UInt8):Value:=pN (if 16<l.length then none else ya l 0)
theorem Nu (w:World) (t:ByteArray) (p:Nat):w.drew.iter t p=grow (w.iter t p) ⟨#[],w.drew.drawn⟩:=by
 simp only [grow,World.iter];show World.alloc _ _=_;simp only [World.alloc,Array.append_empty];rfl
theorem Fe (m d:Nat):IntKind.u64.wrap (IntKind.u64.wrap ((m:Int)*16)+(d:Int))=(((m*16+d) % 18446744073709551616:Nat):Int):=by
 rw [IntKind.wrap_u64,IntKind.wrap_u64];omega
theorem Yg (s t:ByteArray) (hs:s.size≤140737488355328) (h1:(2:Int)<(s.size:Int)) (h2:((s.extract 0 2).toList==[48,120])=true) (ht:s.extract 2 s.size=t) (w:World):
  Calls Tryz.prog 183 #[.string s] w fun e w'=>e=.returned (C1 t.data.toList)∧Below w.heap.size w w':=by
 have hl:t.data.toList.length=t.size:=ak;have Hl:=hid hl;have vT:t.size=s.size - 2:=by rw [←ht];simp
 have hne:(t.toList==[])=false:=by
  rw [ByteArray.toList_eq];cases e:t.data.toList with
  |nil=>rw [e] at hl;simp at hl;omega
  |cons x l=>rfl
 have h3:(1:Int)≤(t.size:Int):=af;have h4:t.size≤140737488355328:=af;clear hl vT;go_enter Tryz.func183,Tryz.ntmps183;go_wp2;go_region;go_wp2;rw [Nu];go_loopw [5] (fun nv wr=>∃(pos m:Nat) (g:gQ),nv=.int .u64 m∧wr=grow (w.iter t pos) g∧pos≤t.size∧Hid (m<18446744073709551616∧ya (t.data.toList.drop pos) m=ya t.data.toList 0)) (fun _ wr=>t.size - wr.iterPos w.heap.size)
 case atStart=>exact⟨0,0,_,rfl,rfl,by omega,by omega,rfl⟩
 case round=>
  obtain⟨pos,m,g,rfl,rfl,hp,hR⟩:=hrel;by_cases hlt:pos<t.size
  ·have hpl:pos<t.data.toList.length:=by rw [Hl.out];exact hlt
   have hd:=Bi t.data.toList pos hpl m;rw [hR.out.2] at hd;have hb:t.data.toList[pos]=t[pos]:=k6;rw [hb] at hd;have hm:=hR.out.1;by_cases qQ:(t[pos]).toNat<128
   ·have hdec:=decode_ascii t pos hlt qQ;have nx:=mY (P:=Tryz.prog) t pos _ (pos+1) hlt EU af;generalize (t[pos]).toNat=b at*;have H:=hid hd;have Hm:=hid hm;clear hd hm hR hb hdec;by_cases q1:16≤uS b
    ·have Xg:(16:Int)≤(uS b:Int):=by omega
     have hd:=H.out;rw [if_pos (by have:=Lc q1;omega)] at hd;have H2:=hid hd;clear hd;go_wp2_with (first
      |(go_at_call 228;refine(qE b qQ _).mono ?_;rintro e w' ⟨rfl,hb⟩;obtain⟨g2,rfl⟩:=aC hb;clear hb))
     go_ret2;exact⟨by unfold C1;rw [H2.out];split<;>rfl,eK⟩
    ·have Xg:(uS b:Int)<16:=by omega
     have e:=xH (b:=b) af;have hd:=H.out;rw [if_neg af] at hd;have H2:=hid hd;have E:=hid e;clear hd e;go_wp2_with (first
      |(go_at_call 228;refine(qE b qQ _).mono ?_;rintro e w' ⟨rfl,hb⟩;obtain⟨g2,rfl⟩:=aC hb;clear hb))
     rw [Fe];refine⟨⟨pos+1,(m*16+uS b) % 18446744073709551616,_,rfl,rfl,by omega,Nat.mod_lt _ aj,by rw [←E.out];exact H2.out.symm⟩, ?_⟩;exact Lz
   ·have hh:=decode_high t pos hlt af;have Jc:=decode_le t pos;have nx:=xL (P:=Tryz.prog) t pos (Utf8.decode t pos).1 (Utf8.decode t pos).2 hlt rfl;rw [if_pos (by have:=Bj (b:=(t[pos]).toNat) af;omega)] at hd;generalize (Utf8.decode t pos).1=b at*;generalize (Utf8.decode t pos).2=wd at*;have k1:=hh.1;have H:=hid hd;have Hm:=hid hm;clear hd hm hR hb hh;go_wp2_with (first
     |(go_at_call 228;refine(x9 b af af _).mono ?_;rintro e w' ⟨rfl,hb⟩;obtain⟨g2,rfl⟩:=aC hb;clear hb))
    go_ret2;exact⟨by unfold C1;rw [H.out];split<;>rfl,eK⟩
  ·have nx:=l5 (P:=Tryz.prog) t pos hlt;have hd:=hR.out.2;rw [List.drop_eq_nil_of_le (by rw [Hl.out];omega)] at hd;have H:=hid hd;have Hm:=hid hR.out.1;clear hd hR;by_cases q:16<t.size
   ·have q1:(16:Int)<(t.size:Int):=by omega
    go_wp2;go_ret2;exact⟨by unfold C1;rw [if_pos (by rw [Hl.out];exact q)];rfl,eK⟩
   ·have q1:(t.size:Int)≤16:=by omega
    go_wp2;go_ret2;exact⟨by unfold C1;rw [if_neg (by rw [Hl.out];exact q),←H.out];rfl,eK⟩
def gF (l:List UInt8):Option Nat:=
 if 2<l.length∧l.take 2=[48,120] then(if 16<(l.drop 2).length then none else ya (l.drop 2) 0) else if l=[] then none else kZ l 0
theorem Yh (s:ByteArray) (h1:(s.size:Int)≤2) (h0:(s.size:Int)=0) (w:World):
  Calls Tryz.prog 183 #[.string s] w fun e w'=>e=.returned (pN none)∧Below w.heap.size w w':=by
 have hne:(s.toList==[])=true:=by
  exact Qb
 have nx:=ua (P:=Tryz.prog) s 0 af;clear h0;go_enter Tryz.func183,Tryz.ntmps183;go_wp2;go_loopw [5] (fun nv wr=>nv=.int .u64 0∧wr=w.iter s 0) (fun _ _=>0)
 case atStart=>exact⟨rfl,rfl⟩
 case round=>
  obtain⟨rfl,rfl⟩:=hrel;go_wp2;go_ret2;exact Rx
theorem kF (s:ByteArray) (n:Nat) (h:n≤s.size):(s.extract 0 n).toList=s.data.toList.take n:=by
 rw [ByteArray.toList_eq];simp
theorem n4 (s:ByteArray) (n:Nat):(s.extract n s.size).data.toList=s.data.toList.drop n:=by
 simp;exact List.take_of_length_le ak
theorem sH (s:ByteArray) (hs:s.size≤140737488355328) (w:World):
  Calls Tryz.prog 183 #[.string s] w fun e w'=>e=.returned (pN (gF s.data.toList))∧Below w.heap.size w w':=by
 have hl:s.data.toList.length=s.size:=ak;by_cases h:2<s.size
 ·cases h2:((s.extract 0 2).toList==[48,120]) with
  |true=>
   have:=Yg s _ hs af h2 rfl w;have e:gF s.data.toList=(if 16<(s.data.toList.drop 2).length then none else ya (s.data.toList.drop 2) 0):=by
    have h5:s.data.toList.take 2=[48,120]:=by rw [←kF s 2 af];exact eq_of_beq h2
    unfold gF;rw [if_pos ⟨by omega,h5⟩]
   rw [e,←n4];exact this
  |false=>
   have:=Px s hs af h2 w;exact Qc
 ·by_cases h0:s.size=0
  ·have:=Yh s af af w;exact Qd
  ·have:=PB s hs af af w;exact Qe
end Go.Proofs.YtjchnliaglecoaaGreatDoor

/- A part of the proof. Conditions: none. -/
set_option maxRecDepth 100000
set_option maxHeartbeats 8000000
namespace Go.Proofs.YtjchnliaglecoaaGreatDoor
open Go Go.RowKit
theorem M4 (m d:Nat):IntKind.u64.wrap (IntKind.u64.wrap (16*(m:Int))+(d:Int))=(((m*16+d) % 18446744073709551616:Nat):Int):=by
 rw [show 16*(m:Int)=(m:Int)*16 by omega];exact Fe m d
theorem js (c:Nat) (hc:c<256) (w:World):Calls Tryz.prog 171 #[.int .u8 (c:Int)] w fun e w'=>e=.returned (.int .i64 (gw c))∧Below w.heap.size w w':=uR I7 c hc w
theorem M5 {m:Nat} (h:m≤9223372036854775807):pN (some m)=.tuple #[.int .i64 (m:Int),.bool true]:=by
 show Value.tuple #[.int .i64 (wrap64 (m:Int)),.bool true]=_;rw [IntWalk.wrap64_in (m:Int) af]
theorem M6 (s:ByteArray) (hs:s.size≤140737488355328) (h1:(3:Int)≤(s.size:Int)) (h2:((s.extract 0 2).toList==[48,120])=false) (w:World):
  Calls Tryz.prog 117 #[.string s] w fun e w'=>e=.returned (pN (kZ s.data.toList 0))∧Below w.heap.size w w':=by
 have hl:s.data.toList.length=s.size:=ak;have Hl:=hid hl;have hne:s.toList.isEmpty=false:=by
  exact ye
 clear hl;go_enter Tryz.func117,Tryz.ntmps117;go_wp2;go_loopw [7,8] (fun nv iv wr=>∃(pos m:Nat),iv=.int .i64 pos∧nv=.int .i64 m∧Below w.heap.size w wr∧pos≤s.size∧Hid (m≤9223372036854775807∧kZ (s.data.toList.drop pos) m=kZ s.data.toList 0)) (fun _ iv _=>s.size - (intOf iv).toNat)
 case atStart=>exact⟨0,0,rfl,rfl,Below.refl _ _,by omega,by omega,rfl⟩
 case round=>
  obtain⟨pos,m,rfl,rfl,hB,hp,hR⟩:=hrel;by_cases hlt:pos<s.size
  ·have hpl:pos<s.data.toList.length:=by rw [Hl.out];exact hlt
   have hd:=qF s.data.toList pos hpl m;rw [hR.out.2] at hd;have hb:s.data.toList[pos]=s[pos]:=k6;rw [hb] at hd;have hm:=hR.out.1;have p0:(0:Int)≤(pos:Int):=af;have p1:(pos:Int)<(s.size:Int):=af;have jg:(s[pos]).toNat<256:=(s[pos]).toNat_lt;obtain⟨b,Ip⟩:∃b,(s[pos]).toNat=b:=⟨_,rfl⟩;rw [Ip] at hd jg;have hle:=xG b;have H:=hid hd;have Hm:=hid hm;have HB:=hid hB;clear hd hm hR hb hB;by_cases q1:9<gw b
   ·exact ac1
   ·have Xg:(gw b:Int)≤9:=by omega
    go_wp2_with (first
     |(go_at_call 171;((with_reducible refine(js b jg _).mono ?_));rintro e w' ⟨rfl,hb⟩;obtain⟨g2,rfl⟩:=aC hb;clear hb))
    ·rename_i q;exact P7
    ·rename_i q;exact ac2
  ·exact P8
theorem M7 (s:ByteArray) (hs:s.size≤140737488355328) (h1:(s.size:Int)<3) (h0:(1:Int)≤(s.size:Int)) (w:World):
  Calls Tryz.prog 117 #[.string s] w fun e w'=>e=.returned (pN (kZ s.data.toList 0))∧Below w.heap.size w w':=by
 have hl:s.data.toList.length=s.size:=ak;have Hl:=hid hl;have hne:s.toList.isEmpty=false:=by
  exact ye
 clear hl;go_enter Tryz.func117,Tryz.ntmps117;go_wp2;go_loopw [7,8] (fun nv iv wr=>∃(pos m:Nat),iv=.int .i64 pos∧nv=.int .i64 m∧Below w.heap.size w wr∧pos≤s.size∧Hid (m≤9223372036854775807∧kZ (s.data.toList.drop pos) m=kZ s.data.toList 0)) (fun _ iv _=>s.size - (intOf iv).toNat)
 case atStart=>exact⟨0,0,rfl,rfl,Below.refl _ _,by omega,by omega,rfl⟩
 case round=>
  obtain⟨pos,m,rfl,rfl,hB,hp,hR⟩:=hrel;by_cases hlt:pos<s.size
  ·have hpl:pos<s.data.toList.length:=by rw [Hl.out];exact hlt
   have hd:=qF s.data.toList pos hpl m;rw [hR.out.2] at hd;have hb:s.data.toList[pos]=s[pos]:=k6;rw [hb] at hd;have hm:=hR.out.1;have p0:(0:Int)≤(pos:Int):=af;have p1:(pos:Int)<(s.size:Int):=af;have jg:(s[pos]).toNat<256:=(s[pos]).toNat_lt;obtain⟨b,Ip⟩:∃b,(s[pos]).toNat=b:=⟨_,rfl⟩;rw [Ip] at hd jg;have hle:=xG b;have H:=hid hd;have Hm:=hid hm;have HB:=hid hB;clear hd hm hR hb hB;by_cases q1:9<gw b
   ·exact ac1
   ·have Xg:(gw b:Int)≤9:=by omega
    go_wp2_with (first
     |(go_at_call 171;((with_reducible refine(js b jg _).mono ?_));rintro e w' ⟨rfl,hb⟩;obtain⟨g2,rfl⟩:=aC hb;clear hb))
    ·rename_i q;exact P7
    ·rename_i q;exact ac2
  ·exact P8
theorem P9 (s:ByteArray) (hs:s.size≤140737488355328) (h1:(3:Int)≤(s.size:Int)) (h2:((s.extract 0 2).toList==[48,120])=true) (w:World):
  Calls Tryz.prog 117 #[.string s] w fun e w'=>e=.returned (C1 (s.data.toList.drop 2))∧Below w.heap.size w w':=by
 have hl:s.data.toList.length=s.size:=ak;have Hl:=hid hl;have hne:s.toList.isEmpty=false:=by
  exact ye
 clear hl;go_enter Tryz.func117,Tryz.ntmps117;go_wp2;go_loopw [4,5] (fun nv iv wr=>∃(pos m:Nat),iv=.int .i64 pos∧nv=.int .u64 m∧Below w.heap.size w wr∧pos≤s.size∧2≤pos∧pos≤18∧Hid (m<18446744073709551616∧ya (s.data.toList.drop pos) m=ya (s.data.toList.drop 2) 0)) (fun _ iv _=>s.size - (intOf iv).toNat)
 case atStart=>exact⟨2,0,rfl,rfl,Below.refl _ _,by omega,by omega,by omega,by omega,rfl⟩
 case round=>
  obtain⟨pos,m,rfl,rfl,hB,hp,Aj,awj,hR⟩:=hrel;by_cases hlt:pos<s.size
  ·have hpl:pos<s.data.toList.length:=by rw [Hl.out];exact hlt
   have hd:=Bi s.data.toList pos hpl m;rw [hR.out.2] at hd;have hb:s.data.toList[pos]=s[pos]:=k6;rw [hb] at hd;have hm:=hR.out.1;have p0:(0:Int)≤(pos:Int):=af;have p1:(pos:Int)<(s.size:Int):=af;have jg:(s[pos]).toNat<256:=(s[pos]).toNat_lt;obtain⟨b,Ip⟩:∃b,(s[pos]).toNat=b:=⟨_,rfl⟩;rw [Ip] at hd jg;have hle:=xG b;have H:=hid hd;have Hm:=hid hm;have HB:=hid hB;clear hd hm hR hb hB;by_cases q1:15<gw b
   ·have Xg:(15:Int)<(gw b:Int):=by omega
    have hd:=H.out;rw [if_pos q1] at hd;have H2:=hid hd;clear hd;go_wp2_with (first
     |(go_at_call 171;((with_reducible refine(js b jg _).mono ?_));rintro e w' ⟨rfl,hb⟩;obtain⟨g2,rfl⟩:=aC hb;clear hb))
    go_ret2;exact⟨by unfold C1;rw [H2.out];split<;>rfl,Bv⟩
   ·have Xg:(gw b:Int)≤15:=by omega
    have hd:=H.out;rw [if_neg q1] at hd;have H2:=hid hd;clear hd;by_cases q2:17<pos
    ·have q2':(17:Int)<(pos:Int):=by omega
     go_wp2_with (first
      |(go_at_call 171;((with_reducible refine(js b jg _).mono ?_));rintro e w' ⟨rfl,hb⟩;obtain⟨g2,rfl⟩:=aC hb;clear hb))
     go_ret2;exact⟨by unfold C1;rw [if_pos (by rw [List.length_drop,Hl.out];omega)];rfl,Bv⟩
    ·have q2':(pos:Int)≤17:=by omega
     go_wp2_with (first
      |(go_at_call 171;((with_reducible refine(js b jg _).mono ?_));rintro e w' ⟨rfl,hb⟩;obtain⟨g2,rfl⟩:=aC hb;clear hb))
     rw [M4];exact⟨⟨pos+1,(m*16+gw b) % 18446744073709551616,by simp,rfl,Bv,by omega,by omega,by omega,Nat.mod_lt _ aj,H2.out.symm⟩,by simp [intOf];omega⟩
  ·have hd:=hR.out.2;rw [List.drop_eq_nil_of_le (by rw [Hl.out];omega)] at hd;have H:=hid hd;have Hm:=hid hR.out.1;have p2:¬((pos:Int)<(s.size:Int)):=af;clear hd hR;go_wp2;go_ret2;exact⟨by unfold C1;rw [if_neg (by rw [List.length_drop,Hl.out];omega),←H.out];rfl,hB⟩
theorem Qa (s:ByteArray) (h1:(s.size:Int)<3) (h0:(s.size:Int)≤0) (w:World):
  Calls Tryz.prog 117 #[.string s] w fun e w'=>e=.returned (pN none)∧Below w.heap.size w w':=by
 have hne:s.toList.isEmpty=true:=by
  exact Qb
 go_enter Tryz.func117,Tryz.ntmps117;go_wp2;go_loop [7,8] (fun nv iv=>nv=.int .i64 0∧iv=.int .i64 0) (fun _ _=>0)
 case atStart=>exact⟨rfl,rfl⟩
 case round=>
  obtain⟨rfl,rfl⟩:=hrel;go_wp2;go_ret2;exact⟨rfl,Below.refl _ _⟩
theorem pO (s:ByteArray) (hs:s.size≤140737488355328) (w:World):
  Calls Tryz.prog 117 #[.string s] w fun e w'=>e=.returned (pN (gF s.data.toList))∧Below w.heap.size w w':=by
 have hl:s.data.toList.length=s.size:=ak;by_cases h:2<s.size
 ·cases h2:((s.extract 0 2).toList==[48,120]) with
  |true=>
   have:=P9 s hs af h2 w;have h5:s.data.toList.take 2=[48,120]:=by rw [←kF s 2 af];exact eq_of_beq h2
   have e:gF s.data.toList=(if 16<(s.data.toList.drop 2).length then none else ya (s.data.toList.drop 2) 0):=by
    unfold gF;rw [if_pos ⟨by omega,h5⟩]
   rw [e];exact this
  |false=>
   have:=M6 s hs af h2 w;exact Qc
 ·by_cases h0:s.size=0
  ·have:=Qa s af af w;exact Qd
  ·have:=M7 s hs af af w;exact Qe
end Go.Proofs.YtjchnliaglecoaaGreatDoor

/- A part of the proof. Conditions: none. -/
set_option maxRecDepth 100000
set_option maxHeartbeats 8000000
namespace Go.Proofs.YtjchnliaglecoaaGreatDoor
open Go Go.RowKit Go.Am
theorem ahB:((List.range 37).all fun k=>Nat.beq k 0||letters.all fun c=>mX 113 [.int .i64 k,.int .u8 c] (.bool (pL k c)))=true:=by kernel_rfl
end Go.Proofs.YtjchnliaglecoaaGreatDoor

/- A part of the proof. Conditions: none. -/
set_option maxRecDepth 100000
set_option maxHeartbeats 8000000
namespace Go.Proofs.YtjchnliaglecoaaGreatDoor
open Go Go.RowKit
structure bZ (w:World):Prop where
 pow : Lib.TabIs Tryz.prog w "internal/strconv.uint64pow10" .u64 Lib.pow10Tab
 asc : Lib.TabIs Tryz.prog w "strings.asciiSpace" .u8 Lib.asciiSpaceTab
 max:∃m,w.cell? ⟨0,0,none⟩=some (.int .i64 m)
theorem CD {w w':World} {name:String} {cs:Array Value} (h:w.var? Tryz.prog name=some cs) (hb:Below w.heap.size w w'):w'.var? Tryz.prog name=some cs:=by
 unfold World.var? at*;cases hg:Tryz.prog.globalNamed name with
 |none=>rw [hg] at h;cases h
 |some g=>
  rw [hg] at h;simp only [Option.bind_some] at h ⊢;have hlt:g<w.heap.size:=by
   rcases Nat.lt_or_ge g w.heap.size with h'|h'
   ·exact h'
   ·rw [Array.getElem?_eq_none h'] at h;cases h
  rw [hb.block g hlt];exact h
theorem bZ.later {w w':World} (h:bZ w) (hb:Below w.heap.size w w'):bZ w':=
 ⟨CD h.pow hb,CD h.asc hb,let ⟨m,hm⟩:=h.max;⟨m,cell_later hb hm⟩⟩
def thrown:List PanicEntry:=[{v:=.iface 170 (.agg #[]),recovered:=false}]
theorem eM (w:World):Calls Tryz.prog 139 #[.bool true] w fun e w'=>e=.returned (.tuple #[])∧w'=w:=by
 go_enter Tryz.func139,Tryz.ntmps139;go_wp2;go_end0;exact⟨rfl,rfl⟩
theorem jF (w:World):Calls Tryz.prog 139 #[.bool false] w fun e w'=>e=.panicked thrown∧w'=w:=by
 go_enter Tryz.func139,Tryz.ntmps139;go_wp2;exact⟨rfl,rfl,rfl⟩
def dI (b:Bool):Ending:=if b then .returned (.tuple #[]) else .panicked thrown
theorem aad (n:Int) (h0:-9223372036854775808≤n) (h1:n≤9223372036854775807) (w:World) (hl:bZ w):
  Calls Tryz.prog 157 #[.int .i64 n,.int .i64 10] w fun e w'=>e=.returned (.string ⟨(Lib.itoa n).toArray⟩)∧Below w.heap.size w w':=
 (Tryz.strconv_FormatInt_10 n h0 h1 w hl.pow).mono fun e w' ⟨he,k,os,hw⟩=>⟨he,by rw [hw];exact Lib.below_grow _ _ (Nat.le_refl _) _ _⟩
theorem Ey {fn:Func} {t u v x:Tmp} (h:fn.results=#[.tmp t,.tmp u,.tmp v,.tmp x]) (tmps:Array Value) (P:Program) (w:World):
  (results fn tmps).run P w=.ok (.tuple #[tmps.getD t undef,tmps.getD u undef,tmps.getD v undef,tmps.getD x undef]) w:=by
 simp [results,h]
theorem nG (n:Int) (h0:-9223372036854775808≤n) (h1:n≤9223372036854775807) (w:World) (hl:bZ w):
  Calls Tryz.prog 184 #[.int .i64 n] w fun e w'=>e=.returned (.string ⟨(Lib.itoa n).toArray⟩)∧Below w.heap.size w w':=by
 go_enter Tryz.func184,Tryz.ntmps184;exact Up
theorem Oi (n:Int) (h0:-9223372036854775808≤n) (h1:n≤9223372036854775807) (w:World) (hl:bZ w):
  Calls Tryz.prog 107 #[.int .i64 n] w fun e w'=>e=.returned (.string ⟨(Lib.itoa n).toArray⟩)∧Below w.heap.size w w':=by
 go_enter Tryz.func107,Tryz.ntmps107;exact Up
theorem OI (k:Nat) (hk:k<37) (w:World):Calls Tryz.prog 226 #[.int .i64 (k:Int)] w fun e w'=>e=.returned (.string ⟨(K3 k).toArray⟩)∧Below w.heap.size w w':=uR OJ k hk w
theorem K4:((List.range 37).all fun k=>Nat.beq k 0||letters.all fun c=>decide (decide (0≤Lib.indexByte (K3 k) c.toUInt8)=pL k c))=true:=by decide+kernel
theorem Gy (k c:Nat) (h0:0<k) (hk:k<37) (hc:c∈letters) (w:World):Calls Tryz.prog 180 #[.int .i64 (k:Int),.int .i32 (c:Int)] w fun e w'=>e=.returned (.bool (pL k c))∧Below w.heap.size w w':=by
 have h1:=List.all_eq_true.1 K4 k (List.mem_range.2 hk);rw [show Nat.beq k 0=false by cases e:Nat.beq k 0 with
  |true=>have:=Nat.eq_of_beq_eq_true e;omega
  |false=>rfl] at h1
 simp only [Bool.false_or] at h1;have h2:=of_decide_eq_true (List.all_eq_true.1 h1 c hc);have hc2:c<128:=by
  have:letters.all (fun c=>decide (c<128))=true:=aj;exact of_decide_eq_true (List.all_eq_true.1 this c hc)
 have H2:=hid h2;clear h1 h2 hc;go_enter Tryz.func180,Tryz.ntmps180;go_wp2_with (first
  |(go_at_call 226;refine(OI k hk _).mono ?_;rintro e w' ⟨rfl,hb⟩;obtain⟨g1,rfl⟩:=aC hb;clear hb)
  |(go_at_call 225;refine(Tryz.strings_ContainsRune_ascii _ _ _ af af).mono ?_;rintro e w' ⟨rfl,rfl⟩))
 go_ret;refine⟨?_,bG (Below.refl _ _) _⟩;rw [←H2.out];simp
theorem Vc (k c:Nat) (h0:0<k) (hk:k<37) (hc:c∈letters) (w:World):Calls Tryz.prog 113 #[.int .i64 (k:Int),.int .u8 (c:Int)] w fun e w'=>e=.returned (.bool (pL k c))∧Below w.heap.size w w':=by
 have h1:=List.all_eq_true.1 ahB k (List.mem_range.2 hk);rw [show Nat.beq k 0=false by cases e:Nat.beq k 0 with
  |true=>have:=Nat.eq_of_beq_eq_true e;omega
  |false=>rfl] at h1
 simp only [Bool.false_or] at h1;exact kY (List.all_eq_true.1 h1 c hc) w
theorem NZ (w:World):Calls Tryz.prog 89 #[] w fun e w'=>e=.returned zw∧Below w.heap.size w w':=kY OL w
theorem GW (k:Nat) (hk:k<37) (w:World):Calls Tryz.prog 112 #[.int .i64 (k:Int)] w fun e w'=>e=.returned (KQ k)∧Below w.heap.size w w':=uR OM k hk w
theorem Ow (k:Int) (hk:k<0∨36<k) (w:World):Calls Tryz.prog 112 #[.int .i64 k] w fun e w'=>e=.returned (.tuple #[str [],str [],str [],.bool false])∧Below w.heap.size w w':=by
 rcases hk with hk|hk
 all_goals
  go_enter Tryz.func112,Tryz.ntmps112;go_wp2;refine bodyPost_ret (Ey rfl _ _ _) rfl ?_;exact⟨rfl,Below.refl _ _⟩
end Go.Proofs.YtjchnliaglecoaaGreatDoor
