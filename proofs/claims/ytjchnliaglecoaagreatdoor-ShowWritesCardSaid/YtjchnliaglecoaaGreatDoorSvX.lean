/- A part of the proof. Conditions: none. -/
import Derived.Deep.QuietTactic
import Derived.BigQuiet
import Derived.Deep.RegionWith
import Derived.Test.YtjchnliaglecoaaGreatDoorZz
import Derived.Test.YtjchnliaglecoaaGreatDoorMoX
import Derived.Deep.RegionHeld3
set_option linter.unusedVariables false
set_option linter.unusedSimpArgs false
set_option maxRecDepth 100000
set_option maxHeartbeats 8000000
namespace Go.Proofs.YtjchnliaglecoaaGreatDoor
open Go Go.RowKit
theorem RY:aM 141 15:=by
 intro s hs kp nk kc bE w hl;show Calls _ _ _ _ fun e w'=>e=.returned (.bool (sS s.data.toList))∧Below w.heap.size w w'
 have jB:Hid (∀w,Calls Tryz.prog 183 #[.string s] w fun e w'=>e=.returned (lY (fy s.data.toList))∧Below w.heap.size w w'):=hid (fun w=>oN s aa w);have HL:Hid (∀w',Below w.heap.size w w'→cu w'):=hid fun w' h=>hl.later h
 clear hl;cases ho:fy s.data.toList with
 |none=>
  have eH:Hid (∀w,Calls Tryz.prog 183 #[.string s] w fun e w'=>e=.returned (.tuple #[.int .i64 0,.bool false])∧Below w.heap.size w w'):=xu;have Hr:Hid (sS s.data.toList=false):=hid (by unfold sS;rw [ho]);clear jB ho;go_enter Tryz.func141,Tryz.ntmps141;go_wp2_with (go_at_call 183;((with_reducible refine(eH.out _).mono ?_));rintro e w' ⟨rfl,hb⟩;obtain⟨g1,rfl⟩:=ay hb;clear hb);exact Zj
 |some n=>
  have eH:Hid (∀w,Calls Tryz.prog 183 #[.string s] w fun e w'=>e=.returned (.tuple #[.int .i64 (wrap64 n),.bool true])∧Below w.heap.size w w'):=xu;have hr:sS s.data.toList=decide (Lib.itoa (wrap64 n)=s.data.toList):=by unfold sS;rw [ho]
  have z0:=jP (n:Int);have z1:=iG (n:Int);clear jB ho;generalize wrap64 (n:Int)=z at*;obtain⟨S1,hS1⟩:∃S:ByteArray,S=⟨(Lib.itoa z).toArray⟩:=⟨_,rfl⟩;have H1:Hid (∀w,cu w→Calls Tryz.prog 184 #[.int .i64 z] w fun e w'=>e=.returned (.string S1)∧Below w.heap.size w w'):=hid (by rw [hS1];exact fun w h=>jY z z0 z1 w h);have e1:decide (Lib.itoa z=s.data.toList)=(S1.toList==s.toList):=by
   exact yM
  rw [e1] at hr;have Hr:=hid hr;clear hr hS1 z0 z1 e1;go_enter Tryz.func141,Tryz.ntmps141;go_wp2_with (go_at_call 183;((with_reducible refine(eH.out _).mono ?_));rintro e w' ⟨rfl,hb⟩;obtain⟨g1,rfl⟩:=ay hb;clear hb);go_region_with (go_at_call 184;((with_reducible refine(H1.out _ (HL.out _ cN)).mono ?_));rintro e w' ⟨rfl,hb⟩;obtain⟨g2,rfl⟩:=ay hb;clear hb);go_wp2
  all_goals (go_ret;exact⟨by rw [Hr.out];rfl,cN⟩)
end Go.Proofs.YtjchnliaglecoaaGreatDoor
/- A part of the proof. Conditions: none. -/
set_option maxRecDepth 100000
set_option maxHeartbeats 8000000
namespace Go.Proofs.YtjchnliaglecoaaGreatDoor
open Go Go.RowKit
theorem aba:aM 65 1:=by
 exact fQ
theorem abc:aM 65 3:=by
 exact fQ
theorem abd:aM 65 4:=by
 exact FL
theorem abe:aM 65 5:=by
 exact FL
theorem abf:aM 65 6:=by
 exact fQ
theorem abg:aM 65 7:=by
 exact fQ
theorem abh:aM 65 8:=by
 exact fQ
theorem abi:aM 65 9:=by
 exact fQ
theorem Ss:aM 65 10:=by
 exact fQ
theorem Su:aM 65 11:=by
 exact fQ
theorem Sv:aM 65 12:=by
 exact fQ
theorem Sw:aM 65 13:=by
 exact fQ
theorem Sx:aM 65 14:=by
 intro s hs kp nk kc bE w hl;show Calls _ _ _ _ fun e w'=>e=.returned (.bool (mX.contains s.data.toList))∧Below w.heap.size w w'
 rw [←ByteArray.toList_eq];clear hl;by_cases h0:s.toList=[116,114,117,101]
 ·have hr:mX.contains s.toList=true:=by rw [h0];decide
  have Hr:=hid hr;clear hr;have b0:(s.toList==[116,114,117,101])=true:=jz;exact En
 have b0:(s.toList==[116,114,117,101])=false:=by simpa using h0
 by_cases h1:s.toList=[102,97,108,115,101]
 ·have hr:mX.contains s.toList=true:=by rw [h1];decide
  have Hr:=hid hr;clear hr;have b1:(s.toList==[102,97,108,115,101])=true:=jy;exact Eo
 have b1:(s.toList==[102,97,108,115,101])=false:=by simpa using h1
 have hr:mX.contains s.toList=false:=by simp [mX,h0,h1]
 have Hr:=hid hr;clear hr h0 h1;exact gz
theorem Sy:aM 65 16:=by
 intro s hs kp nk kc bE w hl;show Calls _ _ _ _ fun e w'=>e=.returned (.bool true)∧Below w.heap.size w w'
 clear hl;go_enter Tryz.func65,Tryz.ntmps65;exact Ey
theorem Sz:aM 65 17:=by
 exact FL
theorem SA:aM 65 18:=by
 exact NJ
theorem SB:aM 65 19:=by
 exact fQ
theorem SC:aM 65 20:=by
 exact fQ
theorem SD:aM 65 21:=by
 intro s hs kp nk kc bE w hl;show Calls _ _ _ _ fun e w'=>e=.returned (.bool (decide (bn s.data.toList=(nk:Int))))∧Below w.heap.size w w'
 have H2:Hid (∀w',Calls Tryz.prog 114 #[.string s] w' fun e w2=>e=.returned (.int .i64 (bn s.data.toList))∧Below w'.heap.size w' w2):=hid fun w'=>by
  have:=vt s w'
  rwa [ByteArray.toList_eq] at this
 clear hl;generalize bn s.data.toList=n at*;go_enter Tryz.func65,Tryz.ntmps65;go_wp2_with fail;go_region_held3 (fun w'=>w'.cell? ⟨w.heap.size,1,none⟩=some (.string s)∧w'.cell? ⟨w.heap.size,2,none⟩=some (.slice kp nk kc)) (simp [go_sem])
  (first|(go_at_call 114;((with_reducible refine(H2.out _).mono ?_));rintro e w' ⟨rfl,hb⟩;obtain⟨g2,rfl⟩:=ay hb;clear hb))
 exact N7
theorem SE:aM 65 22:=by
 exact fQ
theorem SF:aM 65 23:=by
 exact FL
theorem SG:aM 65 24:=by
 exact fQ
theorem SH:aM 65 25:=by
 exact NJ
theorem SI:aM 65 26:=by
 exact fQ
theorem SJ:aM 65 27:=by
 intro s hs kp nk kc bE w hl;show Calls _ _ _ _ fun e w'=>e=.returned (.bool (iK.contains s.data.toList))∧Below w.heap.size w w'
 rw [←ByteArray.toList_eq];clear hl;by_cases h0:s.toList=[43]
 ·have hr:iK.contains s.toList=true:=by rw [h0];decide
  have Hr:=hid hr;clear hr;have b0:(s.toList==[43])=true:=jz;exact En
 have b0:(s.toList==[43])=false:=by simpa using h0
 by_cases h1:s.toList=[45]
 ·have hr:iK.contains s.toList=true:=by rw [h1];decide
  have Hr:=hid hr;clear hr;have b1:(s.toList==[45])=true:=jy;exact Eo
 have b1:(s.toList==[45])=false:=by simpa using h1
 by_cases h2:s.toList=[42]
 ·have hr:iK.contains s.toList=true:=by rw [h2];decide
  have Hr:=hid hr;clear hr;have b2:(s.toList==[42])=true:=jZ;exact N0
 have b2:(s.toList==[42])=false:=lV;by_cases h3:s.toList=[47,47]
 ·have hr:iK.contains s.toList=true:=by rw [h3];decide
  have Hr:=hid hr;clear hr;have b3:(s.toList==[47,47])=true:=ld;clear h3;exact gz
 have b3:(s.toList==[47,47])=false:=uj;by_cases h4:s.toList=[37]
 ·have hr:iK.contains s.toList=true:=by rw [h4];decide
  have Hr:=hid hr;clear hr;have b4:(s.toList==[37])=true:=kZ;clear h4;exact gz
 have b4:(s.toList==[37])=false:=by simpa using h4
 by_cases h5:s.toList=[46,46]
 ·have hr:iK.contains s.toList=true:=by rw [h5];decide
  have Hr:=hid hr;clear hr;have b5:(s.toList==[46,46])=true:=kY;clear h5;exact gz
 have b5:(s.toList==[46,46])=false:=by simpa using h5
 by_cases h6:s.toList=[61,61]
 ·have hr:iK.contains s.toList=true:=by rw [h6];decide
  have Hr:=hid hr;clear hr;have b6:(s.toList==[61,61])=true:=kX;clear h6;exact gz
 have b6:(s.toList==[61,61])=false:=by simpa using h6
 by_cases h7:s.toList=[126,61]
 ·have hr:iK.contains s.toList=true:=by rw [h7];decide
  have Hr:=hid hr;clear hr;have b7:(s.toList==[126,61])=true:=kW;clear h7;exact gz
 have b7:(s.toList==[126,61])=false:=by simpa using h7
 by_cases h8:s.toList=[60]
 ·have hr:iK.contains s.toList=true:=by rw [h8];decide
  have Hr:=hid hr;clear hr;have b8:(s.toList==[60])=true:=kV;clear h8;exact gz
 have b8:(s.toList==[60])=false:=by simpa using h8
 by_cases h9:s.toList=[60,61]
 ·have hr:iK.contains s.toList=true:=by rw [h9];decide
  have Hr:=hid hr;clear hr;have b9:(s.toList==[60,61])=true:=lf;clear h9;exact gz
 have b9:(s.toList==[60,61])=false:=by simpa using h9
 by_cases h10:s.toList=[62]
 ·have hr:iK.contains s.toList=true:=by rw [h10];decide
  have Hr:=hid hr;clear hr;have b10:(s.toList==[62])=true:=by rw [h10];decide
  clear h10;exact gz
 have b10:(s.toList==[62])=false:=by simpa using h10
 by_cases h11:s.toList=[62,61]
 ·have hr:iK.contains s.toList=true:=by rw [h11];decide
  have Hr:=hid hr;clear hr;have b11:(s.toList==[62,61])=true:=by rw [h11];decide
  clear h11;exact gz
 have b11:(s.toList==[62,61])=false:=by simpa using h11
 have hr:iK.contains s.toList=false:=by simp [iK,h0,h1,h2,h3,h4,h5,h6,h7,h8,h9,h10,h11]
 have Hr:=hid hr;clear hr h0 h1 h2 h3 h4 h5 h6 h7 h8 h9 h10 h11;exact gz
theorem SK:aM 65 28:=by
 intro s hs kp nk kc bE w hl;show Calls _ _ _ _ fun e w'=>e=.returned (.bool (Ji.contains s.data.toList))∧Below w.heap.size w w'
 rw [←ByteArray.toList_eq];clear hl;by_cases h0:s.toList=[45]
 ·have hr:Ji.contains s.toList=true:=by rw [h0];decide
  have Hr:=hid hr;clear hr;have b0:(s.toList==[45])=true:=jz;exact En
 have b0:(s.toList==[45])=false:=by simpa using h0
 by_cases h1:s.toList=[110,111,116]
 ·have hr:Ji.contains s.toList=true:=by rw [h1];decide
  have Hr:=hid hr;clear hr;have b1:(s.toList==[110,111,116])=true:=jy;exact Eo
 have b1:(s.toList==[110,111,116])=false:=by simpa using h1
 by_cases h2:s.toList=[35]
 ·have hr:Ji.contains s.toList=true:=by rw [h2];decide
  have Hr:=hid hr;clear hr;have b2:(s.toList==[35])=true:=jZ;exact N0
 have b2:(s.toList==[35])=false:=lV;have hr:Ji.contains s.toList=false:=by simp [Ji,h0,h1,h2]
 have Hr:=hid hr;clear hr h0 h1 h2;exact gz
theorem SL:aM 65 29:=by
 exact fQ
theorem SM:aM 65 30:=by
 exact fQ
theorem SN:aM 65 31:=by
 intro s hs kp nk kc bE w hl;show Calls _ _ _ _ fun e w'=>e=.returned (.bool (fM.contains s.data.toList))∧Below w.heap.size w w'
 have H1:Hid (∀w',Below w.heap.size w w'→Calls Tryz.prog 118 #[.string s] w' fun e w2=>e=.returned (.bool (fM.contains s.data.toList))∧Below w'.heap.size w' w2):=hid fun w' h=>Qm s w'
 clear hl;generalize fM.contains s.data.toList=x at*;go_enter Tryz.func65,Tryz.ntmps65;go_wp2_with (first
  |(go_at_call 118;((with_reducible refine(H1.out _ ?_).mono ?_));rotate_left;rintro e w' ⟨rfl,hb⟩;obtain⟨g1,rfl⟩:=ay hb;clear hb))
 all_goals first
  |(go_ret;exact⟨rfl,cN⟩)
  |exact by repeat (first|exact Below.refl _ _|refine bG ?_ _|refine bI ?_ _ _|refine bA ?_ _|refine bD ?_|refine bN ?_ _)
theorem SP:aM 65 32:=by
 exact fQ
theorem SQ:aM 65 33:=by
 exact NJ
theorem SR:aM 65 34:=by
 exact fQ
theorem SS:aM 65 35:=by
 exact fQ
theorem SU:aM 65 36:=by
 intro s hs kp nk kc bE w hl;show Calls _ _ _ _ fun e w'=>e=.returned (.bool (dM s.data.toList))∧Below w.heap.size w w'
 have H1:Hid (∀w',Below w.heap.size w w'→Calls Tryz.prog 116 #[.string s] w' (iV (dM s.data.toList) w')):=hid fun w' h=>yj s hs w' (hl.later h)
 clear hl;generalize dM s.data.toList=x at*;go_enter Tryz.func65,Tryz.ntmps65;go_wp2_with (first
  |(go_at_call 116;((with_reducible refine(H1.out _ ?_).mono ?_));rotate_left;rintro e w' ⟨⟨z,rfl⟩,hb⟩;obtain⟨g1,rfl⟩:=ay hb;clear hb))
 all_goals first
  |(go_ret;exact⟨rfl,cN⟩)
  |exact by repeat (first|exact Below.refl _ _|refine bG ?_ _|refine bI ?_ _ _|refine bA ?_ _|refine bD ?_|refine bN ?_ _)
end Go.Proofs.YtjchnliaglecoaaGreatDoor
/- A part of the proof. Conditions: none. -/
set_option maxRecDepth 100000
set_option maxHeartbeats 8000000
namespace Go.Proofs.YtjchnliaglecoaaGreatDoor
open Go Go.RowKit
theorem Rx:aM 65 15:=by
 intro s hs kp nk kc bE w hl;show Calls _ _ _ _ fun e w'=>e=.returned (.bool (sS s.data.toList))∧Below w.heap.size w w'
 have jB:Hid (∀w,Calls Tryz.prog 117 #[.string s] w fun e w'=>e=.returned (lY (fy s.data.toList))∧Below w.heap.size w w'):=hid (fun w=>lZ s aa w);have HL:Hid (∀w',Below w.heap.size w w'→cu w'):=hid fun w' h=>hl.later h
 clear hl;cases ho:fy s.data.toList with
 |none=>
  have eH:Hid (∀w,Calls Tryz.prog 117 #[.string s] w fun e w'=>e=.returned (.tuple #[.int .i64 0,.bool false])∧Below w.heap.size w w'):=xu;have Hr:Hid (sS s.data.toList=false):=hid (by unfold sS;rw [ho]);clear jB ho;exact XZ
 |some n=>
  have eH:Hid (∀w,Calls Tryz.prog 117 #[.string s] w fun e w'=>e=.returned (.tuple #[.int .i64 (wrap64 n),.bool true])∧Below w.heap.size w w'):=xu;have hr:sS s.data.toList=decide (Lib.itoa (wrap64 n)=s.data.toList):=by unfold sS;rw [ho]
  have z0:=jP (n:Int);have z1:=iG (n:Int);have aaN:wrap64 (n:Int)<0→sS s.data.toList=false:=fun h=>by
   rw [hr,decide_eq_false_iff_not];intro e;rw [ny h] at e;rw [←e,Fo] at ho;cases ho
  clear jB ho;generalize wrap64 (n:Int)=z at*;by_cases hz:z<0
  ·have Hr:=hid (aaN hz);have hz3:decide (0≤z)=false:=decide_eq_false aa;clear aaN hr z0 z1 hz;exact XZ
  have hz0:decide (0≤z)=true:=decide_eq_true aa;clear aaN hz;obtain⟨S1,hS1⟩:∃S:ByteArray,S=⟨(Lib.itoa z).toArray⟩:=⟨_,rfl⟩;have H1:Hid (∀w,cu w→Calls Tryz.prog 107 #[.int .i64 z] w fun e w'=>e=.returned (.string S1)∧Below w.heap.size w w'):=hid Kc;have e1:decide (Lib.itoa z=s.data.toList)=(S1.toList==s.toList):=by
   exact yM
  rw [e1] at hr;have Hr:=hid hr;clear hr hS1 z0 z1 e1;go_enter Tryz.func65,Tryz.ntmps65;go_wp2_with (go_at_call 117;((with_reducible refine(eH.out _).mono ?_));rintro e w' ⟨rfl,hb⟩;obtain⟨g1,rfl⟩:=ay hb;clear hb);go_region_held3 (fun w'=>w'.cell? ⟨w.heap.size,1,none⟩=some (.string s)∧cu w')
   ((go_split_ands;(try refine⟨?_, ?_⟩)<;>first|exact HL.out _ cN|exact cu.later eL (below_grow _ _)|assumption|(simp [go_sem];done)|(simp [go_sem, *];done)))
   (first|(go_at_call 107;go_split_ands;((with_reducible refine(H1.out _ eL).mono ?_));rintro e w' ⟨rfl,hb⟩;obtain⟨g2,rfl⟩:=ay hb;clear hb))
  go_wp2
  all_goals (go_ret;exact⟨by rw [Hr.out];rfl,cN⟩)
end Go.Proofs.YtjchnliaglecoaaGreatDoor
/- A part of the proof. Conditions: none. -/
set_option maxRecDepth 100000
set_option maxHeartbeats 8000000
namespace Go.Proofs.YtjchnliaglecoaaGreatDoor
open Go Go.RowKit
theorem eB (b:UInt8) (l:List UInt8):Lib.index (b::l) [32]=if b=32 then 0 else if Lib.index l [32]==-1 then -1 else Lib.index l [32]+1:=by
 show(if [32].isPrefixOf (b::l) then 0 else if Lib.index l [32]==-1 then -1 else Lib.index l [32]+1)=_;by_cases h:b=32
 ·subst h;simp
 ·rw [if_neg h,if_neg];intro h2;rw [List.isPrefixOf_cons_cons,Bool.and_eq_true] at h2;exact h (eq_of_beq h2.1).symm
theorem PY (l:List UInt8):((Lib.cut l [32]).2.2 && eX (Lib.cut l [32]).1 && dM (Lib.cut l [32]).2.1)=iO l:=by
 match l with
 |[]=>rfl
 |[c]=>
  by_cases h:c=32
  ·subst h;rfl
  ·have:Lib.index [c] [32]=-1:=by rw [eB,if_neg h];rfl
   unfold Lib.cut;rw [if_neg aa];rfl
 |c::d::m=>
  by_cases h:c=32
  ·subst h;have:Lib.index (32::d::m) [32]=0:=by rw [eB,if_pos rfl]
   have hl:((Lib.cut (32::d::m) [32]).2.2 && eX (Lib.cut (32::d::m) [32]).1 && dM (Lib.cut (32::d::m) [32]).2.1)=false:=by
    exact C2
   rw [hl];unfold iO;split
   ·rename_i heq;cases heq;rfl
   ·rfl
  ·by_cases h2:d=32
   ·subst h2;have:Lib.index (c::32::m) [32]=1:=by
     rw [eB,if_neg h,eB,if_pos rfl];rfl
    exact C2
   ·have hc:iO (c::d::m)=false:=by
     unfold iO;split
     ·rename_i heq;cases heq;exact absurd rfl h2
     ·rfl
    rw [hc];unfold Lib.cut;split
    ·rename_i hp;have sj:=Lib.index_ge m [32];have h3:2≤Lib.index (c::d::m) [32]:=by
      rw [eB,if_neg h,eB,if_neg h2] at hp ⊢;generalize Lib.index m [32]=i at*;by_cases hi:i=-1
      ·subst hi;simp at hp
      ·have e1:(i==-1)=false:=by simpa using hi
       have e2:(i+1==-1)=false:=by
        cases e:(i+1==-1) with
        |false=>rfl
        |true=>have:=eq_of_beq e;omega
       simp only [e1,Bool.false_eq_true,if_false,e2] at hp ⊢;omega
     have h4:∃n,(Lib.index (c::d::m) [32]).toNat=n+2:=⟨(Lib.index (c::d::m) [32]).toNat - 2,by omega⟩;obtain⟨n,hn⟩:=h4;rw [hn];rfl
    ·rfl
theorem aa2:aM 141 2:=by
 intro s hs kp nk kc bE w hl;show Calls _ _ _ _ fun e w'=>e=.returned (.bool (iO s.data.toList))∧Below w.heap.size w w'
 rw [←PY];have gD:s.data.toList.length=s.size:=ak;obtain⟨A,hA⟩:∃A:ByteArray,A=⟨(Lib.cut s.data.toList [32]).1.toArray⟩:=⟨_,rfl⟩;obtain⟨M,hM⟩:∃M:ByteArray,M=⟨(Lib.cut s.data.toList [32]).2.1.toArray⟩:=⟨_,rfl⟩;have hAd:A.data.toList=(Lib.cut s.data.toList [32]).1:=by rw [hA]
 have hMd:M.data.toList=(Lib.cut s.data.toList [32]).2.1:=by rw [hM]
 have hAs:A.size≤100000:=by
  have h1:A.data.toList.length=A.size:=ak;rw [hAd] at h1;unfold Lib.cut at h1;split at h1
  ·simp at h1;omega
  ·simp only at h1;omega
 have hMs:M.size≤100000:=by
  have h1:M.data.toList.length=M.size:=ak;rw [hMd] at h1;unfold Lib.cut at h1;split at h1
  ·simp at h1;omega
  ·simp at h1;omega
 have Pk:Hid (∀w',Below w.heap.size w w'→Calls Tryz.prog 43 #[.string s,.string ⟨#[32]⟩] w' fun e w2=>e=.returned (.tuple #[.string A,.string M,.bool (Lib.cut s.data.toList [32]).2.2])∧Below w'.heap.size w' w2):=hid fun w' h=>by
  obtain⟨m,hm⟩:=(hl.later h).max;rw [hA,hM];exact(Tryz.strings_Cut s ⟨#[32]⟩ m w' aa hm).mono fun e w2 ⟨h1,n,h2⟩=>⟨h1,by rw [h2];exact bN (Below.refl _ _) n⟩
 have H1:Hid (∀w',Below w.heap.size w w'→Calls Tryz.prog 186 #[.string A] w' fun e w2=>e=.returned (.bool (eX (Lib.cut s.data.toList [32]).1))∧Below w'.heap.size w' w2):=hid fun w' h=>by
  have:=sG A hAs w' (hl.later h)
  rwa [Cb,hAd] at this
 have H2:Hid (∀w',Below w.heap.size w w'→Calls Tryz.prog 185 #[.string M] w' fun e w2=>e=.returned (.bool (dM (Lib.cut s.data.toList [32]).2.1))∧Below w'.heap.size w' w2):=hid fun w' h=>by
  have:=BD M hMs w' (hl.later h)
  rwa [hMd] at this
 clear hl hA hM hAd hMd gD;generalize (Lib.cut s.data.toList [32]).2.2=x at*;generalize eX (Lib.cut s.data.toList [32]).1=y at*;generalize dM (Lib.cut s.data.toList [32]).2.1=z at*;cases x
 all_goals cases y
 all_goals
  go_enter Tryz.func141,Tryz.ntmps141;go_wp2_with (first
   |(go_at_call 43;((with_reducible refine(Pk.out _ ?_).mono ?_));rotate_left;rintro e w' ⟨rfl,hb⟩;obtain⟨g1,rfl⟩:=ay hb;clear hb)
   |(go_at_call 186;((with_reducible refine(H1.out _ ?_).mono ?_));rotate_left;rintro e w' ⟨rfl,hb⟩;obtain⟨g1,rfl⟩:=ay hb;clear hb)
   |(go_at_call 185;((with_reducible refine(H2.out _ ?_).mono ?_));rotate_left;rintro e w' ⟨rfl,hb⟩;obtain⟨g1,rfl⟩:=ay hb;clear hb))
  all_goals first
   |(go_ret;exact⟨rfl,cN⟩)
   |exact cN
end Go.Proofs.YtjchnliaglecoaaGreatDoor
/- A part of the proof. Conditions: none. -/
set_option maxRecDepth 100000
set_option maxHeartbeats 8000000
namespace Go.Proofs.YtjchnliaglecoaaGreatDoor
open Go Go.RowKit
theorem I9:dM []=false:=by decide+kernel
theorem Cw {l:List UInt8} (h:l.length<3):iO l=false:=by
 unfold iO;split
 ·rename_i c m;have:m=[]:=by simp at h;exact List.eq_nil_of_length_eq_zero aa
  subst this;rw [I9,Bool.and_false]
 ·rfl
theorem abb:aM 65 2:=by
 intro s hs kp nk kc bE w hl;show Calls _ _ _ _ fun e w'=>e=.returned (.bool (iO s.data.toList))∧Below w.heap.size w w'
 have gD:s.data.toList.length=s.size:=ak;by_cases h3:s.size<3
 ·have Hr:=hid (Cw (l:=s.data.toList) aa);have h4:(s.size:Int)<3:=aa;clear hl gD h3;exact gz
 ·obtain⟨c,d,m,ki⟩:∃c d m,s.data.toList=c::d::m:=by
   match h:s.data.toList with
   |[]=>rw [h] at gD;simp at gD;omega
   |[c]=>rw [h] at gD;simp at gD;omega
   |c::d::m=>exact⟨c,d,m,rfl⟩
  have h4:(3:Int)≤(s.size:Int):=aa;have dB:1<s.size:=aa;have hb1:(s[1]'dB).toNat=d.toNat:=by
   have h2:s[1]'dB=s.data.toList[1]'(by rw [gD];exact dB):=gX;rw [h2];simp [ki]
  obtain⟨A,hA⟩:∃A:ByteArray,s.extract 0 1=A:=⟨_,rfl⟩;obtain⟨M,hM⟩:∃M:ByteArray,s.extract 2 s.size=M:=⟨_,rfl⟩;have hAd:A.data.toList=[c]:=by
   have:=iA s 1 aa;rw [ByteArray.toList_eq,hA,ki] at this;exact this
  have hMd:M.data.toList=m:=by rw [←hM,kD,ki];rfl
  have hMs:M.size≤100000:=by
   have h1:M.data.toList.length=M.size:=ak;rw [hMd] at h1;rw [ki] at gD;simp at gD;omega
  have H1:Hid (∀w',Below w.heap.size w w'→Calls Tryz.prog 115 #[.string A] w' fun e w2=>e=.returned (.bool (eX [c]))∧Below w'.heap.size w' w2):=hid fun w' h=>by
   have:=yq A w'
   rwa [hAd] at this
  have H2:Hid (∀w',Below w.heap.size w w'→Calls Tryz.prog 116 #[.string M] w' (iV (dM m) w')):=hid fun w' h=>by
   have:=yj M hMs w' (hl.later h)
   rwa [hMd] at this
  have h3':¬(s.size:Int)<3:=aa;by_cases CB:d=32
  ·have hr:iO s.data.toList=(eX [c] && dM m):=by rw [ki,CB];rfl
   have hb2:(s[1]'dB).toNat=32:=by rw [hb1,CB];rfl
   have h5:(2:Int)≤(s.size:Int):=aa;have h6:(1:Int)≤(s.size:Int):=aa;have h7:(1:Int)<(s.size:Int):=aa;have Hr:=hid hr;clear hl hr ki hAd hMd hb1 h3 CB gD;generalize eX [c]=x at*;generalize dM m=y at*;cases x
   all_goals
    go_enter Tryz.func65,Tryz.ntmps65;go_wp2_with (first
     |(go_at_call 115;((with_reducible refine(H1.out _ ?_).mono ?_));rotate_left;rintro e w' ⟨rfl,hb⟩;obtain⟨g1,rfl⟩:=ay hb;clear hb)
     |(go_at_call 116;((with_reducible refine(H2.out _ ?_).mono ?_));rotate_left;rintro e w' ⟨⟨z,rfl⟩,hb⟩;obtain⟨g1,rfl⟩:=ay hb;clear hb))
    all_goals first
     |(go_ret;exact⟨by rw [Hr.out];rfl,cN⟩)
     |exact cN
  ·have hr:iO s.data.toList=false:=by
    rw [ki];unfold iO;split
    ·rename_i heq;cases heq;exact absurd rfl CB
    ·rfl
   have hb2:((d.toNat:Int) !=32)=true:=by
    rw [bne_iff_ne];intro e;exact CB (UInt8.toNat_inj.1 (by show d.toNat=32;omega))
   have h7:(1:Int)<(s.size:Int):=aa;have Hr:=hid hr;clear hl hr ki hAd hMd h3 CB gD;generalize d.toNat=dn at*;exact gz
end Go.Proofs.YtjchnliaglecoaaGreatDoor
/- A part of the proof. Conditions: none. -/
set_option maxRecDepth 100000
set_option maxHeartbeats 8000000
namespace Go.Proofs.YtjchnliaglecoaaGreatDoor
open Go Go.RowKit
theorem Mn (k:Nat) (h1:1≤k) (h2:k≤36) (s:ByteArray) (hs:s.size≤100000) (kp:Option Addr) (nk kc:Nat) (bE:Int) (w:World) (hl:cu w):
  Calls Tryz.prog 141 #[.agg #[.int .i64 (k:Int),.string s,.slice kp nk kc,.int .i64 bE]] w fun e w'=>e=.returned (.bool (rT k s.data.toList nk))∧Below w.heap.size w w':=by
 rcases(by omega:k=1∨k=2∨k=3∨k=4∨k=5∨k=6∨k=7∨k=8∨k=9∨k=10∨k=11∨k=12∨k=13∨k=14∨k=15∨k=16∨k=17∨k=18∨k=19∨k=20∨k=21∨k=22∨k=23∨k=24∨k=25∨k=26∨k=27∨k=28∨k=29∨k=30∨k=31∨k=32∨k=33∨k=34∨k=35∨k=36) with rfl|rfl|rfl|rfl|rfl|rfl|rfl|rfl|rfl|rfl|rfl|rfl|rfl|rfl|rfl|rfl|rfl|rfl|rfl|rfl|rfl|rfl|rfl|rfl|rfl|rfl|rfl|rfl|rfl|rfl|rfl|rfl|rfl|rfl|rfl|rfl
 ·exact aa1 s hs kp nk kc bE w hl
 ·exact aa2 s hs kp nk kc bE w hl
 ·exact aa3 s hs kp nk kc bE w hl
 ·exact aa4 s hs kp nk kc bE w hl
 ·exact aa5 s hs kp nk kc bE w hl
 ·exact aa6 s hs kp nk kc bE w hl
 ·exact aa7 s hs kp nk kc bE w hl
 ·exact aa8 s hs kp nk kc bE w hl
 ·exact aa9 s hs kp nk kc bE w hl
 ·exact RR s hs kp nk kc bE w hl
 ·exact RT s hs kp nk kc bE w hl
 ·exact RU s hs kp nk kc bE w hl
 ·exact RV s hs kp nk kc bE w hl
 ·exact RX s hs kp nk kc bE w hl
 ·exact RY s hs kp nk kc bE w hl
 ·exact RZ s hs kp nk kc bE w hl
 ·exact R4 s hs kp nk kc bE w hl
 ·exact R5 s hs kp nk kc bE w hl
 ·exact R6 s hs kp nk kc bE w hl
 ·exact R7 s hs kp nk kc bE w hl
 ·exact R8 s hs kp nk kc bE w hl
 ·exact R9 s hs kp nk kc bE w hl
 ·exact Sa s hs kp nk kc bE w hl
 ·exact Sb s hs kp nk kc bE w hl
 ·exact Sc s hs kp nk kc bE w hl
 ·exact Sd s hs kp nk kc bE w hl
 ·exact Sg s hs kp nk kc bE w hl
 ·exact Sh s hs kp nk kc bE w hl
 ·exact Si s hs kp nk kc bE w hl
 ·exact Sj s hs kp nk kc bE w hl
 ·exact Sk s hs kp nk kc bE w hl
 ·exact Sl s hs kp nk kc bE w hl
 ·exact Sm s hs kp nk kc bE w hl
 ·exact Sn s hs kp nk kc bE w hl
 ·exact Sq s hs kp nk kc bE w hl
 ·exact Sr s hs kp nk kc bE w hl
theorem LS (k:Nat) (h1:1≤k) (h2:k≤36) (s:ByteArray) (hs:s.size≤100000) (kp:Option Addr) (nk kc:Nat) (bE:Int) (w:World) (hl:cu w):
  Calls Tryz.prog 65 #[.agg #[.int .i64 (k:Int),.string s,.slice kp nk kc,.int .i64 bE]] w fun e w'=>e=.returned (.bool (rT k s.data.toList nk))∧Below w.heap.size w w':=by
 rcases(by omega:k=1∨k=2∨k=3∨k=4∨k=5∨k=6∨k=7∨k=8∨k=9∨k=10∨k=11∨k=12∨k=13∨k=14∨k=15∨k=16∨k=17∨k=18∨k=19∨k=20∨k=21∨k=22∨k=23∨k=24∨k=25∨k=26∨k=27∨k=28∨k=29∨k=30∨k=31∨k=32∨k=33∨k=34∨k=35∨k=36) with rfl|rfl|rfl|rfl|rfl|rfl|rfl|rfl|rfl|rfl|rfl|rfl|rfl|rfl|rfl|rfl|rfl|rfl|rfl|rfl|rfl|rfl|rfl|rfl|rfl|rfl|rfl|rfl|rfl|rfl|rfl|rfl|rfl|rfl|rfl|rfl
 ·exact aba s hs kp nk kc bE w hl
 ·exact abb s hs kp nk kc bE w hl
 ·exact abc s hs kp nk kc bE w hl
 ·exact abd s hs kp nk kc bE w hl
 ·exact abe s hs kp nk kc bE w hl
 ·exact abf s hs kp nk kc bE w hl
 ·exact abg s hs kp nk kc bE w hl
 ·exact abh s hs kp nk kc bE w hl
 ·exact abi s hs kp nk kc bE w hl
 ·exact Ss s hs kp nk kc bE w hl
 ·exact Su s hs kp nk kc bE w hl
 ·exact Sv s hs kp nk kc bE w hl
 ·exact Sw s hs kp nk kc bE w hl
 ·exact Sx s hs kp nk kc bE w hl
 ·exact Rx s hs kp nk kc bE w hl
 ·exact Sy s hs kp nk kc bE w hl
 ·exact Sz s hs kp nk kc bE w hl
 ·exact SA s hs kp nk kc bE w hl
 ·exact SB s hs kp nk kc bE w hl
 ·exact SC s hs kp nk kc bE w hl
 ·exact SD s hs kp nk kc bE w hl
 ·exact SE s hs kp nk kc bE w hl
 ·exact SF s hs kp nk kc bE w hl
 ·exact SG s hs kp nk kc bE w hl
 ·exact SH s hs kp nk kc bE w hl
 ·exact SI s hs kp nk kc bE w hl
 ·exact SJ s hs kp nk kc bE w hl
 ·exact SK s hs kp nk kc bE w hl
 ·exact SL s hs kp nk kc bE w hl
 ·exact SM s hs kp nk kc bE w hl
 ·exact SN s hs kp nk kc bE w hl
 ·exact SP s hs kp nk kc bE w hl
 ·exact SQ s hs kp nk kc bE w hl
 ·exact SR s hs kp nk kc bE w hl
 ·exact SS s hs kp nk kc bE w hl
 ·exact SU s hs kp nk kc bE w hl
end Go.Proofs.YtjchnliaglecoaaGreatDoor