/- A part of the proof. Conditions: none. -/
import Derived.Deep.QuietTactic
import Derived.BigQuiet
import Derived.Deep.RegionWith
import Derived.Test.YtbgjanmheagilaaGreatDoorZz
import Derived.Test.YtbgjanmheagilaaGreatDoorApX
import Derived.Deep.RegionHeld3
set_option linter.unusedVariables false
set_option linter.unusedSimpArgs false
set_option maxRecDepth 100000
set_option maxHeartbeats 8000000
namespace Go.Proofs.YtbgjanmheagilaaGreatDoor
open Go Go.RowKit
theorem QG:aK 93 15:=by
 intro s hs kp nk kc aT w hl;show Calls _ _ _ _ fun e w'=>e=.returned (.bool (sW s.data.toList))∧Below w.heap.size w w'
 have js:Hid (∀w,Calls Tryz.prog 126 #[.string s] w fun e w'=>e=.returned (lJ (dY s.data.toList))∧Below w.heap.size w w'):=hid (fun w=>od s aa w);have HL:Hid (∀w',Below w.heap.size w w'→bu w'):=hid fun w' h=>hl.later h
 clear hl;cases ho:dY s.data.toList with
 |none=>
  have dr:Hid (∀w,Calls Tryz.prog 126 #[.string s] w fun e w'=>e=.returned (.tuple #[.int .i64 0,.bool false])∧Below w.heap.size w w'):=xo;have Hr:Hid (sW s.data.toList=false):=hid (by unfold sW;rw [ho]);clear js ho;go_enter Tryz.func93,Tryz.ntmps93;go_wp2_with (go_at_call 126;((with_reducible refine(dr.out _).mono ?_));rintro e w' ⟨rfl,hb⟩;obtain⟨g1,rfl⟩:=aA hb;clear hb);exact Vp
 |some n=>
  have dr:Hid (∀w,Calls Tryz.prog 126 #[.string s] w fun e w'=>e=.returned (.tuple #[.int .i64 (wrap64 n),.bool true])∧Below w.heap.size w w'):=xo;have hr:sW s.data.toList=decide (Lib.itoa (wrap64 n)=s.data.toList):=by unfold sW;rw [ho]
  have z0:=jE (n:Int);have z1:=ig (n:Int);clear js ho;generalize wrap64 (n:Int)=z at*;obtain⟨S1,hS1⟩:∃S:ByteArray,S=⟨(Lib.itoa z).toArray⟩:=⟨_,rfl⟩;have H1:Hid (∀w,bu w→Calls Tryz.prog 127 #[.int .i64 z] w fun e w'=>e=.returned (.string S1)∧Below w.heap.size w w'):=hid (by rw [hS1];exact fun w h=>jF z z0 z1 w h);have e1:decide (Lib.itoa z=s.data.toList)=(S1.toList==s.toList):=by
   exact yT
  rw [e1] at hr;have Hr:=hid hr;clear hr hS1 z0 z1 e1;go_enter Tryz.func93,Tryz.ntmps93;go_wp2_with (go_at_call 126;((with_reducible refine(dr.out _).mono ?_));rintro e w' ⟨rfl,hb⟩;obtain⟨g1,rfl⟩:=aA hb;clear hb);go_region_with (go_at_call 127;((with_reducible refine(H1.out _ (HL.out _ bP)).mono ?_));rintro e w' ⟨rfl,hb⟩;obtain⟨g2,rfl⟩:=aA hb;clear hb);go_wp2
  all_goals (go_ret;exact⟨by rw [Hr.out];rfl,bP⟩)
end Go.Proofs.YtbgjanmheagilaaGreatDoor
/- A part of the proof. Conditions: none. -/
set_option maxRecDepth 100000
set_option maxHeartbeats 8000000
namespace Go.Proofs.YtbgjanmheagilaaGreatDoor
open Go Go.RowKit
theorem Yz:aK 43 1:=by
 exact eW
theorem YB:aK 43 3:=by
 exact eW
theorem YC:aK 43 4:=by
 exact Gz
theorem YD:aK 43 5:=by
 exact Gz
theorem YE:aK 43 6:=by
 exact eW
theorem YF:aK 43 7:=by
 exact eW
theorem YG:aK 43 8:=by
 exact eW
theorem YH:aK 43 9:=by
 exact eW
theorem Rj:aK 43 10:=by
 exact eW
theorem Rk:aK 43 11:=by
 exact eW
theorem Rl:aK 43 12:=by
 exact eW
theorem Rm:aK 43 13:=by
 exact eW
theorem Rn:aK 43 14:=by
 intro s hs kp nk kc aT w hl;show Calls _ _ _ _ fun e w'=>e=.returned (.bool (mF.contains s.data.toList))∧Below w.heap.size w w'
 rw [←ByteArray.toList_eq];clear hl;by_cases h0:s.toList=[116,114,117,101]
 ·have hr:mF.contains s.toList=true:=by rw [h0];decide
  have Hr:=hid hr;clear hr;have b0:(s.toList==[116,114,117,101])=true:=jr;exact Nw
 have b0:(s.toList==[116,114,117,101])=false:=by simpa using h0
 by_cases h1:s.toList=[102,97,108,115,101]
 ·have hr:mF.contains s.toList=true:=by rw [h1];decide
  have Hr:=hid hr;clear hr;have b1:(s.toList==[102,97,108,115,101])=true:=jq;exact Nx
 have b1:(s.toList==[102,97,108,115,101])=false:=by simpa using h1
 have hr:mF.contains s.toList=false:=by simp [mF,h0,h1]
 have Hr:=hid hr;clear hr h0 h1;exact jo
theorem Ro:aK 43 16:=by
 intro s hs kp nk kc aT w hl;show Calls _ _ _ _ fun e w'=>e=.returned (.bool true)∧Below w.heap.size w w'
 clear hl;go_enter Tryz.func43,Tryz.ntmps43;exact EW
theorem Rp:aK 43 17:=by
 exact Gz
theorem Rq:aK 43 18:=by
 exact Nr
theorem Rs:aK 43 19:=by
 exact eW
theorem Rt:aK 43 20:=by
 exact eW
theorem Ru:aK 43 21:=by
 intro s hs kp nk kc aT w hl;show Calls _ _ _ _ fun e w'=>e=.returned (.bool (decide (bn s.data.toList=(nk:Int))))∧Below w.heap.size w w'
 have H2:Hid (∀w',Calls Tryz.prog 71 #[.string s] w' fun e w2=>e=.returned (.int .i64 (bn s.data.toList))∧Below w'.heap.size w' w2):=hid fun w'=>by
  have:=oH s w'
  rwa [ByteArray.toList_eq] at this
 clear hl;generalize bn s.data.toList=n at*;go_enter Tryz.func43,Tryz.ntmps43;go_wp2_with fail;go_region_held3 (fun w'=>w'.cell? ⟨w.heap.size,1,none⟩=some (.string s)∧w'.cell? ⟨w.heap.size,2,none⟩=some (.slice kp nk kc)) (simp [go_sem])
  (first|(go_at_call 71;((with_reducible refine(H2.out _).mono ?_));rintro e w' ⟨rfl,hb⟩;obtain⟨g2,rfl⟩:=aA hb;clear hb))
 exact Nz
theorem Rv:aK 43 22:=by
 exact eW
theorem Rw:aK 43 23:=by
 exact Gz
theorem Rx:aK 43 24:=by
 exact eW
theorem Ry:aK 43 25:=by
 exact Nr
theorem Rz:aK 43 26:=by
 exact eW
theorem RA:aK 43 27:=by
 intro s hs kp nk kc aT w hl;show Calls _ _ _ _ fun e w'=>e=.returned (.bool (jC.contains s.data.toList))∧Below w.heap.size w w'
 rw [←ByteArray.toList_eq];clear hl;by_cases h0:s.toList=[43]
 ·have hr:jC.contains s.toList=true:=by rw [h0];decide
  have Hr:=hid hr;clear hr;have b0:(s.toList==[43])=true:=jr;exact Nw
 have b0:(s.toList==[43])=false:=by simpa using h0
 by_cases h1:s.toList=[45]
 ·have hr:jC.contains s.toList=true:=by rw [h1];decide
  have Hr:=hid hr;clear hr;have b1:(s.toList==[45])=true:=jq;exact Nx
 have b1:(s.toList==[45])=false:=by simpa using h1
 by_cases h2:s.toList=[42]
 ·have hr:jC.contains s.toList=true:=by rw [h2];decide
  have Hr:=hid hr;clear hr;have b2:(s.toList==[42])=true:=jY;exact WG
 have b2:(s.toList==[42])=false:=lS;by_cases h3:s.toList=[47,47]
 ·have hr:jC.contains s.toList=true:=by rw [h3];decide
  have Hr:=hid hr;clear hr;have b3:(s.toList==[47,47])=true:=lg;clear h3;exact jo
 have b3:(s.toList==[47,47])=false:=uV;by_cases h4:s.toList=[37]
 ·have hr:jC.contains s.toList=true:=by rw [h4];decide
  have Hr:=hid hr;clear hr;have b4:(s.toList==[37])=true:=lf;clear h4;exact jo
 have b4:(s.toList==[37])=false:=by simpa using h4
 by_cases h5:s.toList=[46,46]
 ·have hr:jC.contains s.toList=true:=by rw [h5];decide
  have Hr:=hid hr;clear hr;have b5:(s.toList==[46,46])=true:=ld;clear h5;exact jo
 have b5:(s.toList==[46,46])=false:=by simpa using h5
 by_cases h6:s.toList=[61,61]
 ·have hr:jC.contains s.toList=true:=by rw [h6];decide
  have Hr:=hid hr;clear hr;have b6:(s.toList==[61,61])=true:=kZ;clear h6;exact jo
 have b6:(s.toList==[61,61])=false:=by simpa using h6
 by_cases h7:s.toList=[126,61]
 ·have hr:jC.contains s.toList=true:=by rw [h7];decide
  have Hr:=hid hr;clear hr;have b7:(s.toList==[126,61])=true:=kY;clear h7;exact jo
 have b7:(s.toList==[126,61])=false:=by simpa using h7
 by_cases h8:s.toList=[60]
 ·have hr:jC.contains s.toList=true:=by rw [h8];decide
  have Hr:=hid hr;clear hr;have b8:(s.toList==[60])=true:=kX;clear h8;exact jo
 have b8:(s.toList==[60])=false:=by simpa using h8
 by_cases h9:s.toList=[60,61]
 ·have hr:jC.contains s.toList=true:=by rw [h9];decide
  have Hr:=hid hr;clear hr;have b9:(s.toList==[60,61])=true:=lp;clear h9;exact jo
 have b9:(s.toList==[60,61])=false:=by simpa using h9
 by_cases h10:s.toList=[62]
 ·have hr:jC.contains s.toList=true:=by rw [h10];decide
  have Hr:=hid hr;clear hr;have b10:(s.toList==[62])=true:=by rw [h10];decide
  clear h10;exact jo
 have b10:(s.toList==[62])=false:=by simpa using h10
 by_cases h11:s.toList=[62,61]
 ·have hr:jC.contains s.toList=true:=by rw [h11];decide
  have Hr:=hid hr;clear hr;have b11:(s.toList==[62,61])=true:=by rw [h11];decide
  clear h11;exact jo
 have b11:(s.toList==[62,61])=false:=by simpa using h11
 have hr:jC.contains s.toList=false:=by simp [jC,h0,h1,h2,h3,h4,h5,h6,h7,h8,h9,h10,h11]
 have Hr:=hid hr;clear hr h0 h1 h2 h3 h4 h5 h6 h7 h8 h9 h10 h11;exact jo
theorem RB:aK 43 28:=by
 intro s hs kp nk kc aT w hl;show Calls _ _ _ _ fun e w'=>e=.returned (.bool (JQ.contains s.data.toList))∧Below w.heap.size w w'
 rw [←ByteArray.toList_eq];clear hl;by_cases h0:s.toList=[45]
 ·have hr:JQ.contains s.toList=true:=by rw [h0];decide
  have Hr:=hid hr;clear hr;have b0:(s.toList==[45])=true:=jr;exact Nw
 have b0:(s.toList==[45])=false:=by simpa using h0
 by_cases h1:s.toList=[110,111,116]
 ·have hr:JQ.contains s.toList=true:=by rw [h1];decide
  have Hr:=hid hr;clear hr;have b1:(s.toList==[110,111,116])=true:=jq;exact Nx
 have b1:(s.toList==[110,111,116])=false:=by simpa using h1
 by_cases h2:s.toList=[35]
 ·have hr:JQ.contains s.toList=true:=by rw [h2];decide
  have Hr:=hid hr;clear hr;have b2:(s.toList==[35])=true:=jY;exact WG
 have b2:(s.toList==[35])=false:=lS;have hr:JQ.contains s.toList=false:=by simp [JQ,h0,h1,h2]
 have Hr:=hid hr;clear hr h0 h1 h2;exact jo
theorem RD:aK 43 29:=by
 exact eW
theorem RF:aK 43 30:=by
 exact eW
theorem RG:aK 43 31:=by
 intro s hs kp nk kc aT w hl;show Calls _ _ _ _ fun e w'=>e=.returned (.bool (eG.contains s.data.toList))∧Below w.heap.size w w'
 have H1:Hid (∀w',Below w.heap.size w w'→Calls Tryz.prog 76 #[.string s] w' fun e w2=>e=.returned (.bool (eG.contains s.data.toList))∧Below w'.heap.size w' w2):=hid fun w' h=>LU s w'
 clear hl;generalize eG.contains s.data.toList=x at*;go_enter Tryz.func43,Tryz.ntmps43;go_wp2_with (first
  |(go_at_call 76;((with_reducible refine(H1.out _ ?_).mono ?_));rotate_left;rintro e w' ⟨rfl,hb⟩;obtain⟨g1,rfl⟩:=aA hb;clear hb))
 all_goals first
  |(go_ret;exact⟨rfl,bP⟩)
  |exact by repeat (first|exact Below.refl _ _|refine bG ?_ _|refine bI ?_ _ _|refine bA ?_ _|refine bD ?_|refine bN ?_ _)
theorem RH:aK 43 32:=by
 exact eW
theorem RI:aK 43 33:=by
 exact Nr
theorem RJ:aK 43 34:=by
 exact eW
theorem RL:aK 43 35:=by
 exact eW
theorem RM:aK 43 36:=by
 intro s hs kp nk kc aT w hl;show Calls _ _ _ _ fun e w'=>e=.returned (.bool (cI s.data.toList))∧Below w.heap.size w w'
 have H1:Hid (∀w',Below w.heap.size w w'→Calls Tryz.prog 73 #[.string s] w' (iL (cI s.data.toList) w')):=hid fun w' h=>xZ s hs w' (hl.later h)
 clear hl;generalize cI s.data.toList=x at*;go_enter Tryz.func43,Tryz.ntmps43;go_wp2_with (first
  |(go_at_call 73;((with_reducible refine(H1.out _ ?_).mono ?_));rotate_left;rintro e w' ⟨⟨z,rfl⟩,hb⟩;obtain⟨g1,rfl⟩:=aA hb;clear hb))
 all_goals first
  |(go_ret;exact⟨rfl,bP⟩)
  |exact by repeat (first|exact Below.refl _ _|refine bG ?_ _|refine bI ?_ _ _|refine bA ?_ _|refine bD ?_|refine bN ?_ _)
end Go.Proofs.YtbgjanmheagilaaGreatDoor
/- A part of the proof. Conditions: none. -/
set_option maxRecDepth 100000
set_option maxHeartbeats 8000000
namespace Go.Proofs.YtbgjanmheagilaaGreatDoor
open Go Go.RowKit
theorem Qd:aK 43 15:=by
 intro s hs kp nk kc aT w hl;show Calls _ _ _ _ fun e w'=>e=.returned (.bool (sW s.data.toList))∧Below w.heap.size w w'
 have js:Hid (∀w,Calls Tryz.prog 74 #[.string s] w fun e w'=>e=.returned (lJ (dY s.data.toList))∧Below w.heap.size w w'):=hid (fun w=>lU s aa w);have HL:Hid (∀w',Below w.heap.size w w'→bu w'):=hid fun w' h=>hl.later h
 clear hl;cases ho:dY s.data.toList with
 |none=>
  have dr:Hid (∀w,Calls Tryz.prog 74 #[.string s] w fun e w'=>e=.returned (.tuple #[.int .i64 0,.bool false])∧Below w.heap.size w w'):=xo;have Hr:Hid (sW s.data.toList=false):=hid (by unfold sW;rw [ho]);clear js ho;exact UK
 |some n=>
  have dr:Hid (∀w,Calls Tryz.prog 74 #[.string s] w fun e w'=>e=.returned (.tuple #[.int .i64 (wrap64 n),.bool true])∧Below w.heap.size w w'):=xo;have hr:sW s.data.toList=decide (Lib.itoa (wrap64 n)=s.data.toList):=by unfold sW;rw [ho]
  have z0:=jE (n:Int);have z1:=ig (n:Int);have XO:wrap64 (n:Int)<0→sW s.data.toList=false:=fun h=>by
   rw [hr,decide_eq_false_iff_not];intro e;rw [nj h] at e;rw [←e,Gb] at ho;cases ho
  clear js ho;generalize wrap64 (n:Int)=z at*;by_cases hz:z<0
  ·have Hr:=hid (XO hz);have hz3:decide (0≤z)=false:=decide_eq_false aa;clear XO hr z0 z1 hz;exact UK
  have hz0:decide (0≤z)=true:=decide_eq_true aa;clear XO hz;obtain⟨S1,hS1⟩:∃S:ByteArray,S=⟨(Lib.itoa z).toArray⟩:=⟨_,rfl⟩;have H1:Hid (∀w,bu w→Calls Tryz.prog 75 #[.int .i64 z] w fun e w'=>e=.returned (.string S1)∧Below w.heap.size w w'):=hid KE;have e1:decide (Lib.itoa z=s.data.toList)=(S1.toList==s.toList):=by
   exact yT
  rw [e1] at hr;have Hr:=hid hr;clear hr hS1 z0 z1 e1;go_enter Tryz.func43,Tryz.ntmps43;go_wp2_with (go_at_call 74;((with_reducible refine(dr.out _).mono ?_));rintro e w' ⟨rfl,hb⟩;obtain⟨g1,rfl⟩:=aA hb;clear hb);go_region_held3 (fun w'=>w'.cell? ⟨w.heap.size,1,none⟩=some (.string s)∧bu w')
   ((go_split_ands;(try refine⟨?_, ?_⟩)<;>first|exact HL.out _ bP|exact bu.later (by assumption) (below_grow _ _)|assumption|(simp [go_sem];done)|(simp [go_sem, *];done)))
   (first|(go_at_call 75;go_split_ands;((with_reducible refine(H1.out _ (by assumption)).mono ?_));rintro e w' ⟨rfl,hb⟩;obtain⟨g2,rfl⟩:=aA hb;clear hb))
  go_wp2
  all_goals (go_ret;exact⟨by rw [Hr.out];rfl,bP⟩)
end Go.Proofs.YtbgjanmheagilaaGreatDoor
/- A part of the proof. Conditions: none. -/
set_option maxRecDepth 100000
set_option maxHeartbeats 8000000
namespace Go.Proofs.YtbgjanmheagilaaGreatDoor
open Go Go.RowKit
theorem eL (b:UInt8) (l:List UInt8):Lib.index (b::l) [32]=if b=32 then 0 else if Lib.index l [32]==-1 then -1 else Lib.index l [32]+1:=by
 show(if [32].isPrefixOf (b::l) then 0 else if Lib.index l [32]==-1 then -1 else Lib.index l [32]+1)=_;by_cases h:b=32
 ·subst h;simp
 ·rw [if_neg h,if_neg];intro h2;rw [List.isPrefixOf_cons_cons,Bool.and_eq_true] at h2;exact h (eq_of_beq h2.1).symm
theorem Ky (l:List UInt8):((Lib.cut l [32]).2.2 && dI (Lib.cut l [32]).1 && cI (Lib.cut l [32]).2.1)=jK l:=by
 match l with
 |[]=>rfl
 |[c]=>
  by_cases h:c=32
  ·subst h;rfl
  ·have:Lib.index [c] [32]=-1:=by rw [eL,if_neg h];rfl
   unfold Lib.cut;rw [if_neg aa];rfl
 |c::d::m=>
  by_cases h:c=32
  ·subst h;have:Lib.index (32::d::m) [32]=0:=by rw [eL,if_pos rfl]
   have hl:((Lib.cut (32::d::m) [32]).2.2 && dI (Lib.cut (32::d::m) [32]).1 && cI (Lib.cut (32::d::m) [32]).2.1)=false:=by
    unfold Lib.cut;rw [if_pos aa,this];rfl
   rw [hl];unfold jK;split
   ·rename_i heq;cases heq;rfl
   ·rfl
  ·by_cases h2:d=32
   ·subst h2;have:Lib.index (c::32::m) [32]=1:=by
     rw [eL,if_neg h,eL,if_pos rfl];rfl
    unfold Lib.cut;rw [if_pos aa,this];rfl
   ·have hc:jK (c::d::m)=false:=by
     unfold jK;split
     ·rename_i heq;cases heq;exact absurd rfl h2
     ·rfl
    rw [hc];unfold Lib.cut;split
    ·rename_i hp;have jx:=Lib.index_ge m [32];have h3:2≤Lib.index (c::d::m) [32]:=by
      rw [eL,if_neg h,eL,if_neg h2] at hp ⊢;generalize Lib.index m [32]=i at*;by_cases hi:i=-1
      ·subst hi;simp at hp
      ·have e1:(i==-1)=false:=by simpa using hi
       have e2:(i+1==-1)=false:=by
        cases e:(i+1==-1) with
        |false=>rfl
        |true=>have:=eq_of_beq e;omega
       simp only [e1,Bool.false_eq_true,if_false,e2] at hp ⊢;omega
     have h4:∃n,(Lib.index (c::d::m) [32]).toNat=n+2:=⟨(Lib.index (c::d::m) [32]).toNat - 2,by omega⟩;obtain⟨n,hn⟩:=h4;rw [hn];rfl
    ·rfl
theorem XD:aK 93 2:=by
 intro s hs kp nk kc aT w hl;show Calls _ _ _ _ fun e w'=>e=.returned (.bool (jK s.data.toList))∧Below w.heap.size w w'
 rw [←Ky];have dW:s.data.toList.length=s.size:=ai;obtain⟨A,hA⟩:∃A:ByteArray,A=⟨(Lib.cut s.data.toList [32]).1.toArray⟩:=⟨_,rfl⟩;obtain⟨M,hM⟩:∃M:ByteArray,M=⟨(Lib.cut s.data.toList [32]).2.1.toArray⟩:=⟨_,rfl⟩;have XE:A.data.toList=(Lib.cut s.data.toList [32]).1:=by rw [hA]
 have Uz:M.data.toList=(Lib.cut s.data.toList [32]).2.1:=by rw [hM]
 have hAs:A.size≤100000:=by
  have h1:A.data.toList.length=A.size:=ai;rw [XE] at h1;unfold Lib.cut at h1;split at h1
  ·simp at h1;omega
  ·simp only at h1;omega
 have hMs:M.size≤100000:=by
  have h1:M.data.toList.length=M.size:=ai;rw [Uz] at h1;unfold Lib.cut at h1;split at h1
  ·simp at h1;omega
  ·simp at h1;omega
 have Kz:Hid (∀w',Below w.heap.size w w'→Calls Tryz.prog 129 #[.string s,.string ⟨#[32]⟩] w' fun e w2=>e=.returned (.tuple #[.string A,.string M,.bool (Lib.cut s.data.toList [32]).2.2])∧Below w'.heap.size w' w2):=hid fun w' h=>by
  obtain⟨m,hm⟩:=(hl.later h).max;rw [hA,hM];exact(Tryz.strings_Cut s ⟨#[32]⟩ m w' aa hm).mono fun e w2 ⟨h1,n,h2⟩=>⟨h1,by rw [h2];exact bN (Below.refl _ _) n⟩
 have H1:Hid (∀w',Below w.heap.size w w'→Calls Tryz.prog 130 #[.string A] w' fun e w2=>e=.returned (.bool (dI (Lib.cut s.data.toList [32]).1))∧Below w'.heap.size w' w2):=hid fun w' h=>by
  have:=rU A hAs w' (hl.later h)
  rwa [Br,XE] at this
 have H2:Hid (∀w',Below w.heap.size w w'→Calls Tryz.prog 128 #[.string M] w' fun e w2=>e=.returned (.bool (cI (Lib.cut s.data.toList [32]).2.1))∧Below w'.heap.size w' w2):=hid fun w' h=>by
  have:=A2 M hMs w' (hl.later h)
  rwa [Uz] at this
 clear hl hA hM XE Uz dW;generalize (Lib.cut s.data.toList [32]).2.2=x at*;generalize dI (Lib.cut s.data.toList [32]).1=y at*;generalize cI (Lib.cut s.data.toList [32]).2.1=z at*;cases x
 all_goals cases y
 all_goals
  go_enter Tryz.func93,Tryz.ntmps93;go_wp2_with (first
   |(go_at_call 129;((with_reducible refine(Kz.out _ ?_).mono ?_));rotate_left;rintro e w' ⟨rfl,hb⟩;obtain⟨g1,rfl⟩:=aA hb;clear hb)
   |(go_at_call 130;((with_reducible refine(H1.out _ ?_).mono ?_));rotate_left;rintro e w' ⟨rfl,hb⟩;obtain⟨g1,rfl⟩:=aA hb;clear hb)
   |(go_at_call 128;((with_reducible refine(H2.out _ ?_).mono ?_));rotate_left;rintro e w' ⟨rfl,hb⟩;obtain⟨g1,rfl⟩:=aA hb;clear hb))
  all_goals first
   |(go_ret;exact⟨rfl,bP⟩)
   |exact bP
end Go.Proofs.YtbgjanmheagilaaGreatDoor
/- A part of the proof. Conditions: none. -/
set_option maxRecDepth 100000
set_option maxHeartbeats 8000000
namespace Go.Proofs.YtbgjanmheagilaaGreatDoor
open Go Go.RowKit
theorem Ji:cI []=false:=by decide+kernel
theorem CS {l:List UInt8} (h:l.length<3):jK l=false:=by
 unfold jK;split
 ·rename_i c m;have:m=[]:=by simp at h;exact List.eq_nil_of_length_eq_zero aa
  subst this;rw [Ji,Bool.and_false]
 ·rfl
theorem YA:aK 43 2:=by
 intro s hs kp nk kc aT w hl;show Calls _ _ _ _ fun e w'=>e=.returned (.bool (jK s.data.toList))∧Below w.heap.size w w'
 have dW:s.data.toList.length=s.size:=ai;by_cases h3:s.size<3
 ·have Hr:=hid (CS (l:=s.data.toList) aa);have h4:(s.size:Int)<3:=aa;clear hl dW h3;exact jo
 ·obtain⟨c,d,m,kn⟩:∃c d m,s.data.toList=c::d::m:=by
   match h:s.data.toList with
   |[]=>rw [h] at dW;simp at dW;omega
   |[c]=>rw [h] at dW;simp at dW;omega
   |c::d::m=>exact⟨c,d,m,rfl⟩
  have h4:(3:Int)≤(s.size:Int):=aa;have cD:1<s.size:=aa;have hb1:(s[1]'cD).toNat=d.toNat:=by
   have h2:s[1]'cD=s.data.toList[1]'(by rw [dW];exact cD):=iM;rw [h2];simp [kn]
  obtain⟨A,hA⟩:∃A:ByteArray,s.extract 0 1=A:=⟨_,rfl⟩;obtain⟨M,hM⟩:∃M:ByteArray,s.extract 2 s.size=M:=⟨_,rfl⟩;have XE:A.data.toList=[c]:=by
   have:=gZ s 1 aa;rw [ByteArray.toList_eq,hA,kn] at this;exact this
  have Uz:M.data.toList=m:=by rw [←hM,kB,kn];rfl
  have hMs:M.size≤100000:=by
   have h1:M.data.toList.length=M.size:=ai;rw [Uz] at h1;rw [kn] at dW;simp at dW;omega
  have H1:Hid (∀w',Below w.heap.size w w'→Calls Tryz.prog 72 #[.string A] w' fun e w2=>e=.returned (.bool (dI [c]))∧Below w'.heap.size w' w2):=hid fun w' h=>by
   have:=xL A w'
   rwa [XE] at this
  have H2:Hid (∀w',Below w.heap.size w w'→Calls Tryz.prog 73 #[.string M] w' (iL (cI m) w')):=hid fun w' h=>by
   have:=xZ M hMs w' (hl.later h)
   rwa [Uz] at this
  have h3':¬(s.size:Int)<3:=aa;by_cases Dy:d=32
  ·have hr:jK s.data.toList=(dI [c] && cI m):=by rw [kn,Dy];rfl
   have hb2:(s[1]'cD).toNat=32:=by rw [hb1,Dy];rfl
   have h5:(2:Int)≤(s.size:Int):=aa;have h6:(1:Int)≤(s.size:Int):=aa;have h7:(1:Int)<(s.size:Int):=aa;have Hr:=hid hr;clear hl hr kn XE Uz hb1 h3 Dy dW;generalize dI [c]=x at*;generalize cI m=y at*;cases x
   all_goals
    go_enter Tryz.func43,Tryz.ntmps43;go_wp2_with (first
     |(go_at_call 72;((with_reducible refine(H1.out _ ?_).mono ?_));rotate_left;rintro e w' ⟨rfl,hb⟩;obtain⟨g1,rfl⟩:=aA hb;clear hb)
     |(go_at_call 73;((with_reducible refine(H2.out _ ?_).mono ?_));rotate_left;rintro e w' ⟨⟨z,rfl⟩,hb⟩;obtain⟨g1,rfl⟩:=aA hb;clear hb))
    all_goals first
     |(go_ret;exact⟨by rw [Hr.out];rfl,bP⟩)
     |exact bP
  ·have hr:jK s.data.toList=false:=by
    rw [kn];unfold jK;split
    ·rename_i heq;cases heq;exact absurd rfl Dy
    ·rfl
   have hb2:((d.toNat:Int) !=32)=true:=by
    rw [bne_iff_ne];intro e;exact Dy (UInt8.toNat_inj.1 (by show d.toNat=32;omega))
   have h7:(1:Int)<(s.size:Int):=aa;have Hr:=hid hr;clear hl hr kn XE Uz h3 Dy dW;generalize d.toNat=dn at*;exact jo
end Go.Proofs.YtbgjanmheagilaaGreatDoor
/- A part of the proof. Conditions: none. -/
set_option maxRecDepth 100000
set_option maxHeartbeats 8000000
namespace Go.Proofs.YtbgjanmheagilaaGreatDoor
open Go Go.RowKit
theorem My (k:Nat) (h1:1≤k) (h2:k≤36) (s:ByteArray) (hs:s.size≤100000) (kp:Option Addr) (nk kc:Nat) (aT:Int) (w:World) (hl:bu w):
  Calls Tryz.prog 93 #[.agg #[.int .i64 (k:Int),.string s,.slice kp nk kc,.int .i64 aT]] w fun e w'=>e=.returned (.bool (mJ k s.data.toList nk))∧Below w.heap.size w w':=by
 rcases(by omega:k=1∨k=2∨k=3∨k=4∨k=5∨k=6∨k=7∨k=8∨k=9∨k=10∨k=11∨k=12∨k=13∨k=14∨k=15∨k=16∨k=17∨k=18∨k=19∨k=20∨k=21∨k=22∨k=23∨k=24∨k=25∨k=26∨k=27∨k=28∨k=29∨k=30∨k=31∨k=32∨k=33∨k=34∨k=35∨k=36) with rfl|rfl|rfl|rfl|rfl|rfl|rfl|rfl|rfl|rfl|rfl|rfl|rfl|rfl|rfl|rfl|rfl|rfl|rfl|rfl|rfl|rfl|rfl|rfl|rfl|rfl|rfl|rfl|rfl|rfl|rfl|rfl|rfl|rfl|rfl|rfl
 ·exact Yr s hs kp nk kc aT w hl
 ·exact XD s hs kp nk kc aT w hl
 ·exact Ys s hs kp nk kc aT w hl
 ·exact Yt s hs kp nk kc aT w hl
 ·exact Yu s hs kp nk kc aT w hl
 ·exact Yv s hs kp nk kc aT w hl
 ·exact Yw s hs kp nk kc aT w hl
 ·exact Yx s hs kp nk kc aT w hl
 ·exact Yy s hs kp nk kc aT w hl
 ·exact QM s hs kp nk kc aT w hl
 ·exact QN s hs kp nk kc aT w hl
 ·exact QO s hs kp nk kc aT w hl
 ·exact QS s hs kp nk kc aT w hl
 ·exact QT s hs kp nk kc aT w hl
 ·exact QG s hs kp nk kc aT w hl
 ·exact QU s hs kp nk kc aT w hl
 ·exact QV s hs kp nk kc aT w hl
 ·exact QW s hs kp nk kc aT w hl
 ·exact QX s hs kp nk kc aT w hl
 ·exact QY s hs kp nk kc aT w hl
 ·exact QZ s hs kp nk kc aT w hl
 ·exact Q0 s hs kp nk kc aT w hl
 ·exact Q2 s hs kp nk kc aT w hl
 ·exact Q3 s hs kp nk kc aT w hl
 ·exact Q4 s hs kp nk kc aT w hl
 ·exact Q5 s hs kp nk kc aT w hl
 ·exact Q6 s hs kp nk kc aT w hl
 ·exact Q7 s hs kp nk kc aT w hl
 ·exact Q8 s hs kp nk kc aT w hl
 ·exact Q9 s hs kp nk kc aT w hl
 ·exact Ra s hs kp nk kc aT w hl
 ·exact Rb s hs kp nk kc aT w hl
 ·exact Rc s hs kp nk kc aT w hl
 ·exact Re s hs kp nk kc aT w hl
 ·exact Rh s hs kp nk kc aT w hl
 ·exact Ri s hs kp nk kc aT w hl
theorem Mz (k:Nat) (h1:1≤k) (h2:k≤36) (s:ByteArray) (hs:s.size≤100000) (kp:Option Addr) (nk kc:Nat) (aT:Int) (w:World) (hl:bu w):
  Calls Tryz.prog 43 #[.agg #[.int .i64 (k:Int),.string s,.slice kp nk kc,.int .i64 aT]] w fun e w'=>e=.returned (.bool (mJ k s.data.toList nk))∧Below w.heap.size w w':=by
 rcases(by omega:k=1∨k=2∨k=3∨k=4∨k=5∨k=6∨k=7∨k=8∨k=9∨k=10∨k=11∨k=12∨k=13∨k=14∨k=15∨k=16∨k=17∨k=18∨k=19∨k=20∨k=21∨k=22∨k=23∨k=24∨k=25∨k=26∨k=27∨k=28∨k=29∨k=30∨k=31∨k=32∨k=33∨k=34∨k=35∨k=36) with rfl|rfl|rfl|rfl|rfl|rfl|rfl|rfl|rfl|rfl|rfl|rfl|rfl|rfl|rfl|rfl|rfl|rfl|rfl|rfl|rfl|rfl|rfl|rfl|rfl|rfl|rfl|rfl|rfl|rfl|rfl|rfl|rfl|rfl|rfl|rfl
 ·exact Yz s hs kp nk kc aT w hl
 ·exact YA s hs kp nk kc aT w hl
 ·exact YB s hs kp nk kc aT w hl
 ·exact YC s hs kp nk kc aT w hl
 ·exact YD s hs kp nk kc aT w hl
 ·exact YE s hs kp nk kc aT w hl
 ·exact YF s hs kp nk kc aT w hl
 ·exact YG s hs kp nk kc aT w hl
 ·exact YH s hs kp nk kc aT w hl
 ·exact Rj s hs kp nk kc aT w hl
 ·exact Rk s hs kp nk kc aT w hl
 ·exact Rl s hs kp nk kc aT w hl
 ·exact Rm s hs kp nk kc aT w hl
 ·exact Rn s hs kp nk kc aT w hl
 ·exact Qd s hs kp nk kc aT w hl
 ·exact Ro s hs kp nk kc aT w hl
 ·exact Rp s hs kp nk kc aT w hl
 ·exact Rq s hs kp nk kc aT w hl
 ·exact Rs s hs kp nk kc aT w hl
 ·exact Rt s hs kp nk kc aT w hl
 ·exact Ru s hs kp nk kc aT w hl
 ·exact Rv s hs kp nk kc aT w hl
 ·exact Rw s hs kp nk kc aT w hl
 ·exact Rx s hs kp nk kc aT w hl
 ·exact Ry s hs kp nk kc aT w hl
 ·exact Rz s hs kp nk kc aT w hl
 ·exact RA s hs kp nk kc aT w hl
 ·exact RB s hs kp nk kc aT w hl
 ·exact RD s hs kp nk kc aT w hl
 ·exact RF s hs kp nk kc aT w hl
 ·exact RG s hs kp nk kc aT w hl
 ·exact RH s hs kp nk kc aT w hl
 ·exact RI s hs kp nk kc aT w hl
 ·exact RJ s hs kp nk kc aT w hl
 ·exact RL s hs kp nk kc aT w hl
 ·exact RM s hs kp nk kc aT w hl
end Go.Proofs.YtbgjanmheagilaaGreatDoor