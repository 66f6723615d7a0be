/- A part of the proof. Conditions: none. -/
import Derived.Deep.QuietTactic
import Derived.BigQuiet
import Derived.Deep.RegionWith
import Derived.Test.YtjchnliaglecoaaGreatDoorZz
import Derived.Test.YtjchnliaglecoaaGreatDoorApX
import Derived.Deep.RegionHeld3
set_option linter.unusedVariables false
set_option linter.unusedSimpArgs false
set_option maxRecDepth 100000
set_option maxHeartbeats 8000000
namespace Go.Proofs.YtjchnliaglecoaaGreatDoor
open Go Go.RowKit
theorem Yn:dy 141 15:=by
 intro s hs kp nk kc bE w hl;show Calls _ _ _ _ fun e w'=>e=.returned (.bool (xw s.data.toList))∧Below w.heap.size w w'
 have mF:Hid (∀w,Calls Tryz.prog 183 #[.string s] w fun e w'=>e=.returned (pN (gF s.data.toList))∧Below w.heap.size w w'):=hid (fun w=>sH s af w);have HL:Hid (∀w',Below w.heap.size w w'→bZ w'):=hid fun w' h=>hl.later h
 clear hl;cases ho:gF s.data.toList with
 |none=>
  have fK:Hid (∀w,Calls Tryz.prog 183 #[.string s] w fun e w'=>e=.returned (.tuple #[.int .i64 0,.bool false])∧Below w.heap.size w w'):=Bk;have Hr:Hid (xw s.data.toList=false):=hid (by unfold xw;rw [ho]);clear mF ho;go_enter Tryz.func141,Tryz.ntmps141;go_wp2_with (go_at_call 183;((with_reducible refine(fK.out _).mono ?_));rintro e w' ⟨rfl,hb⟩;obtain⟨g1,rfl⟩:=aC hb;clear hb);exact aeX
 |some n=>
  have fK:Hid (∀w,Calls Tryz.prog 183 #[.string s] w fun e w'=>e=.returned (.tuple #[.int .i64 (wrap64 n),.bool true])∧Below w.heap.size w w'):=Bk;have hr:xw s.data.toList=decide (Lib.itoa (wrap64 n)=s.data.toList):=by unfold xw;rw [ho]
  have z0:=mZ (n:Int);have z1:=kN (n:Int);clear mF ho;generalize wrap64 (n:Int)=z at*;obtain⟨S1,hS1⟩:∃S:ByteArray,S=⟨(Lib.itoa z).toArray⟩:=⟨_,rfl⟩;have H1:Hid (∀w,bZ w→Calls Tryz.prog 184 #[.int .i64 z] w fun e w'=>e=.returned (.string S1)∧Below w.heap.size w w'):=hid (by rw [hS1];exact fun w h=>nG z z0 z1 w h);have e1:decide (Lib.itoa z=s.data.toList)=(S1.toList==s.toList):=by
   exact CT
  rw [e1] at hr;have Hr:=hid hr;clear hr hS1 z0 z1 e1;go_enter Tryz.func141,Tryz.ntmps141;go_wp2_with (go_at_call 183;((with_reducible refine(fK.out _).mono ?_));rintro e w' ⟨rfl,hb⟩;obtain⟨g1,rfl⟩:=aC hb;clear hb);go_region_with (go_at_call 184;((with_reducible refine(H1.out _ (HL.out _ dB)).mono ?_));rintro e w' ⟨rfl,hb⟩;obtain⟨g2,rfl⟩:=aC hb;clear hb);go_wp2
  all_goals (go_ret;exact⟨by rw [Hr.out];rfl,dB⟩)
end Go.Proofs.YtjchnliaglecoaaGreatDoor

/- A part of the proof. Conditions: none. -/
set_option maxRecDepth 100000
set_option maxHeartbeats 8000000
namespace Go.Proofs.YtjchnliaglecoaaGreatDoor
open Go Go.RowKit
theorem aha:dy 65 1:=by
 exact iq
theorem ahc:dy 65 3:=by
 exact iq
theorem ahd:dy 65 4:=by
 exact Ma
theorem ahe:dy 65 5:=by
 exact Ma
theorem ahf:dy 65 6:=by
 exact iq
theorem ahg:dy 65 7:=by
 exact iq
theorem ahh:dy 65 8:=by
 exact iq
theorem ahi:dy 65 9:=by
 exact iq
theorem YL:dy 65 10:=by
 exact iq
theorem YM:dy 65 11:=by
 exact iq
theorem YN:dy 65 12:=by
 exact iq
theorem YO:dy 65 13:=by
 exact iq
theorem YP:dy 65 14:=by
 intro s hs kp nk kc bE w hl;show Calls _ _ _ _ fun e w'=>e=.returned (.bool (qz.contains s.data.toList))∧Below w.heap.size w w'
 rw [←ByteArray.toList_eq];clear hl;by_cases h0:s.toList=[116,114,117,101]
 ·have hr:qz.contains s.toList=true:=by rw [h0];decide
  have Hr:=hid hr;clear hr;have b0:(s.toList==[116,114,117,101])=true:=mB;exact Kj
 have b0:(s.toList==[116,114,117,101])=false:=by simpa using h0
 by_cases h1:s.toList=[102,97,108,115,101]
 ·have hr:qz.contains s.toList=true:=by rw [h1];decide
  have Hr:=hid hr;clear hr;have b1:(s.toList==[102,97,108,115,101])=true:=mA;exact Kk
 have b1:(s.toList==[102,97,108,115,101])=false:=by simpa using h1
 have hr:qz.contains s.toList=false:=by simp [qz,h0,h1]
 have Hr:=hid hr;clear hr h0 h1;exact iU
theorem YQ:dy 65 16:=by
 intro s hs kp nk kc bE w hl;show Calls _ _ _ _ fun e w'=>e=.returned (.bool true)∧Below w.heap.size w w'
 clear hl;go_enter Tryz.func65,Tryz.ntmps65;exact Ko
theorem YR:dy 65 17:=by
 exact Ma
theorem YS:dy 65 18:=by
 exact TL
theorem YT:dy 65 19:=by
 exact iq
theorem YU:dy 65 20:=by
 exact iq
theorem YV:dy 65 21:=by
 intro s hs kp nk kc bE w hl;show Calls _ _ _ _ fun e w'=>e=.returned (.bool (decide (bn s.data.toList=(nk:Int))))∧Below w.heap.size w w'
 have H2:Hid (∀w',Calls Tryz.prog 114 #[.string s] w' fun e w2=>e=.returned (.int .i64 (bn s.data.toList))∧Below w'.heap.size w' w2):=hid fun w'=>by
  have:=sU s w'
  rwa [ByteArray.toList_eq] at this
 clear hl;generalize bn s.data.toList=n at*;go_enter Tryz.func65,Tryz.ntmps65;go_wp2_with fail;go_region_held3 (fun w'=>w'.cell? ⟨w.heap.size,1,none⟩=some (.string s)∧w'.cell? ⟨w.heap.size,2,none⟩=some (.slice kp nk kc)) (simp [go_sem])
  (first|(go_at_call 114;((with_reducible refine(H2.out _).mono ?_));rintro e w' ⟨rfl,hb⟩;obtain⟨g2,rfl⟩:=aC hb;clear hb))
 exact Ud
theorem YW:dy 65 22:=by
 exact iq
theorem YX:dy 65 23:=by
 exact Ma
theorem YY:dy 65 24:=by
 exact iq
theorem YZ:dy 65 25:=by
 exact TL
theorem Y0:dy 65 26:=by
 exact iq
theorem Y1:dy 65 27:=by
 intro s hs kp nk kc bE w hl;show Calls _ _ _ _ fun e w'=>e=.returned (.bool (mO.contains s.data.toList))∧Below w.heap.size w w'
 rw [←ByteArray.toList_eq];clear hl;by_cases h0:s.toList=[43]
 ·have hr:mO.contains s.toList=true:=by rw [h0];decide
  have Hr:=hid hr;clear hr;have b0:(s.toList==[43])=true:=mB;exact Kj
 have b0:(s.toList==[43])=false:=by simpa using h0
 by_cases h1:s.toList=[45]
 ·have hr:mO.contains s.toList=true:=by rw [h1];decide
  have Hr:=hid hr;clear hr;have b1:(s.toList==[45])=true:=mA;exact Kk
 have b1:(s.toList==[45])=false:=by simpa using h1
 by_cases h2:s.toList=[42]
 ·have hr:mO.contains s.toList=true:=by rw [h2];decide
  have Hr:=hid hr;clear hr;have b2:(s.toList==[42])=true:=nM;exact T8
 have b2:(s.toList==[42])=false:=pM;by_cases h3:s.toList=[47,47]
 ·have hr:mO.contains s.toList=true:=by rw [h3];decide
  have Hr:=hid hr;clear hr;have b3:(s.toList==[47,47])=true:=oV;clear h3;exact iU
 have b3:(s.toList==[47,47])=false:=x8;by_cases h4:s.toList=[37]
 ·have hr:mO.contains s.toList=true:=by rw [h4];decide
  have Hr:=hid hr;clear hr;have b4:(s.toList==[37])=true:=oU;clear h4;exact iU
 have b4:(s.toList==[37])=false:=by simpa using h4
 by_cases h5:s.toList=[46,46]
 ·have hr:mO.contains s.toList=true:=by rw [h5];decide
  have Hr:=hid hr;clear hr;have b5:(s.toList==[46,46])=true:=nj;clear h5;exact iU
 have b5:(s.toList==[46,46])=false:=by simpa using h5
 by_cases h6:s.toList=[61,61]
 ·have hr:mO.contains s.toList=true:=by rw [h6];decide
  have Hr:=hid hr;clear hr;have b6:(s.toList==[61,61])=true:=oQ;clear h6;exact iU
 have b6:(s.toList==[61,61])=false:=by simpa using h6
 by_cases h7:s.toList=[126,61]
 ·have hr:mO.contains s.toList=true:=by rw [h7];decide
  have Hr:=hid hr;clear hr;have b7:(s.toList==[126,61])=true:=oP;clear h7;exact iU
 have b7:(s.toList==[126,61])=false:=by simpa using h7
 by_cases h8:s.toList=[60]
 ·have hr:mO.contains s.toList=true:=by rw [h8];decide
  have Hr:=hid hr;clear hr;have b8:(s.toList==[60])=true:=oO;clear h8;exact iU
 have b8:(s.toList==[60])=false:=by simpa using h8
 by_cases h9:s.toList=[60,61]
 ·have hr:mO.contains s.toList=true:=by rw [h9];decide
  have Hr:=hid hr;clear hr;have b9:(s.toList==[60,61])=true:=oW;clear h9;exact iU
 have b9:(s.toList==[60,61])=false:=by simpa using h9
 by_cases h10:s.toList=[62]
 ·have hr:mO.contains s.toList=true:=by rw [h10];decide
  have Hr:=hid hr;clear hr;have b10:(s.toList==[62])=true:=by rw [h10];decide
  clear h10;exact iU
 have b10:(s.toList==[62])=false:=by simpa using h10
 by_cases h11:s.toList=[62,61]
 ·have hr:mO.contains s.toList=true:=by rw [h11];decide
  have Hr:=hid hr;clear hr;have b11:(s.toList==[62,61])=true:=by rw [h11];decide
  clear h11;exact iU
 have b11:(s.toList==[62,61])=false:=by simpa using h11
 have hr:mO.contains s.toList=false:=by simp [mO,h0,h1,h2,h3,h4,h5,h6,h7,h8,h9,h10,h11]
 have Hr:=hid hr;clear hr h0 h1 h2 h3 h4 h5 h6 h7 h8 h9 h10 h11;exact iU
theorem Y2:dy 65 28:=by
 intro s hs kp nk kc bE w hl;show Calls _ _ _ _ fun e w'=>e=.returned (.bool (O6.contains s.data.toList))∧Below w.heap.size w w'
 rw [←ByteArray.toList_eq];clear hl;by_cases h0:s.toList=[45]
 ·have hr:O6.contains s.toList=true:=by rw [h0];decide
  have Hr:=hid hr;clear hr;have b0:(s.toList==[45])=true:=mB;exact Kj
 have b0:(s.toList==[45])=false:=by simpa using h0
 by_cases h1:s.toList=[110,111,116]
 ·have hr:O6.contains s.toList=true:=by rw [h1];decide
  have Hr:=hid hr;clear hr;have b1:(s.toList==[110,111,116])=true:=mA;exact Kk
 have b1:(s.toList==[110,111,116])=false:=by simpa using h1
 by_cases h2:s.toList=[35]
 ·have hr:O6.contains s.toList=true:=by rw [h2];decide
  have Hr:=hid hr;clear hr;have b2:(s.toList==[35])=true:=nM;exact T8
 have b2:(s.toList==[35])=false:=pM;have hr:O6.contains s.toList=false:=by simp [O6,h0,h1,h2]
 have Hr:=hid hr;clear hr h0 h1 h2;exact iU
theorem Y3:dy 65 29:=by
 exact iq
theorem Y4:dy 65 30:=by
 exact iq
theorem Y5:dy 65 31:=by
 intro s hs kp nk kc bE w hl;show Calls _ _ _ _ fun e w'=>e=.returned (.bool (gW.contains s.data.toList))∧Below w.heap.size w w'
 have H1:Hid (∀w',Below w.heap.size w w'→Calls Tryz.prog 118 #[.string s] w' fun e w2=>e=.returned (.bool (gW.contains s.data.toList))∧Below w'.heap.size w' w2):=hid fun w' h=>WM s w'
 clear hl;generalize gW.contains s.data.toList=x at*;go_enter Tryz.func65,Tryz.ntmps65;go_wp2_with (first
  |(go_at_call 118;((with_reducible refine(H1.out _ ?_).mono ?_));rotate_left;rintro e w' ⟨rfl,hb⟩;obtain⟨g1,rfl⟩:=aC hb;clear hb))
 all_goals first
  |(go_ret;exact⟨rfl,dB⟩)
  |exact by repeat (first|exact Below.refl _ _|refine bG ?_ _|refine bI ?_ _ _|refine bA ?_ _|refine bD ?_|refine bN ?_ _)
theorem Y6:dy 65 32:=by
 exact iq
theorem Y7:dy 65 33:=by
 exact TL
theorem Y8:dy 65 34:=by
 exact iq
theorem Y9:dy 65 35:=by
 exact iq
theorem Za:dy 65 36:=by
 intro s hs kp nk kc bE w hl;show Calls _ _ _ _ fun e w'=>e=.returned (.bool (eG s.data.toList))∧Below w.heap.size w w'
 have H1:Hid (∀w',Below w.heap.size w w'→Calls Tryz.prog 116 #[.string s] w' (k7 (eG s.data.toList) w')):=hid fun w' h=>Cv s hs w' (hl.later h)
 clear hl;generalize eG s.data.toList=x at*;go_enter Tryz.func65,Tryz.ntmps65;go_wp2_with (first
  |(go_at_call 116;((with_reducible refine(H1.out _ ?_).mono ?_));rotate_left;rintro e w' ⟨⟨z,rfl⟩,hb⟩;obtain⟨g1,rfl⟩:=aC hb;clear hb))
 all_goals first
  |(go_ret;exact⟨rfl,dB⟩)
  |exact by repeat (first|exact Below.refl _ _|refine bG ?_ _|refine bI ?_ _ _|refine bA ?_ _|refine bD ?_|refine bN ?_ _)
end Go.Proofs.YtjchnliaglecoaaGreatDoor

/- A part of the proof. Conditions: none. -/
set_option maxRecDepth 100000
set_option maxHeartbeats 8000000
namespace Go.Proofs.YtjchnliaglecoaaGreatDoor
open Go Go.RowKit
theorem XX:dy 65 15:=by
 intro s hs kp nk kc bE w hl;show Calls _ _ _ _ fun e w'=>e=.returned (.bool (xw s.data.toList))∧Below w.heap.size w w'
 have mF:Hid (∀w,Calls Tryz.prog 117 #[.string s] w fun e w'=>e=.returned (pN (gF s.data.toList))∧Below w.heap.size w w'):=hid (fun w=>pO s af w);have HL:Hid (∀w',Below w.heap.size w w'→bZ w'):=hid fun w' h=>hl.later h
 clear hl;cases ho:gF s.data.toList with
 |none=>
  have fK:Hid (∀w,Calls Tryz.prog 117 #[.string s] w fun e w'=>e=.returned (.tuple #[.int .i64 0,.bool false])∧Below w.heap.size w w'):=Bk;have Hr:Hid (xw s.data.toList=false):=hid (by unfold xw;rw [ho]);clear mF ho;exact ac3
 |some n=>
  have fK:Hid (∀w,Calls Tryz.prog 117 #[.string s] w fun e w'=>e=.returned (.tuple #[.int .i64 (wrap64 n),.bool true])∧Below w.heap.size w w'):=Bk;have hr:xw s.data.toList=decide (Lib.itoa (wrap64 n)=s.data.toList):=by unfold xw;rw [ho]
  have z0:=mZ (n:Int);have z1:=kN (n:Int);have C3:wrap64 (n:Int)<0→xw s.data.toList=false:=fun h=>by
   rw [hr,decide_eq_false_iff_not];intro e;rw [qH h] at e;rw [←e,Lm] at ho;cases ho
  clear mF ho;generalize wrap64 (n:Int)=z at*;by_cases hz:z<0
  ·have Hr:=hid (C3 hz);have hz3:decide (0≤z)=false:=decide_eq_false af;clear C3 hr z0 z1 hz;exact ac3
  have hz0:decide (0≤z)=true:=decide_eq_true af;clear C3 hz;obtain⟨S1,hS1⟩:∃S:ByteArray,S=⟨(Lib.itoa z).toArray⟩:=⟨_,rfl⟩;have H1:Hid (∀w,bZ w→Calls Tryz.prog 107 #[.int .i64 z] w fun e w'=>e=.returned (.string S1)∧Below w.heap.size w w'):=hid PC;have e1:decide (Lib.itoa z=s.data.toList)=(S1.toList==s.toList):=by
   exact CT
  rw [e1] at hr;have Hr:=hid hr;clear hr hS1 z0 z1 e1;go_enter Tryz.func65,Tryz.ntmps65;go_wp2_with (go_at_call 117;((with_reducible refine(fK.out _).mono ?_));rintro e w' ⟨rfl,hb⟩;obtain⟨g1,rfl⟩:=aC hb;clear hb);go_region_held3 (fun w'=>w'.cell? ⟨w.heap.size,1,none⟩=some (.string s)∧bZ w')
   ((go_split_ands;(try refine⟨?_, ?_⟩)<;>first|exact HL.out _ dB|exact bZ.later (by assumption) (below_grow _ _)|assumption|(simp [go_sem];done)|(simp [go_sem, *];done)))
   (first|(go_at_call 107;go_split_ands;((with_reducible refine(H1.out _ (by assumption)).mono ?_));rintro e w' ⟨rfl,hb⟩;obtain⟨g2,rfl⟩:=aC hb;clear hb))
  go_wp2
  all_goals (go_ret;exact⟨by rw [Hr.out];rfl,dB⟩)
end Go.Proofs.YtjchnliaglecoaaGreatDoor

/- A part of the proof. Conditions: none. -/
set_option maxRecDepth 100000
set_option maxHeartbeats 8000000
namespace Go.Proofs.YtjchnliaglecoaaGreatDoor
open Go Go.RowKit
theorem iu (b:UInt8) (l:List UInt8):Lib.index (b::l) [32]=if b=32 then 0 else if Lib.index l [32]==-1 then -1 else Lib.index l [32]+1:=by
 show(if [32].isPrefixOf (b::l) then 0 else if Lib.index l [32]==-1 then -1 else Lib.index l [32]+1)=_;by_cases h:b=32
 ·subst h;simp
 ·rw [if_neg h,if_neg];intro h2;rw [List.isPrefixOf_cons_cons,Bool.and_eq_true] at h2;exact h (eq_of_beq h2.1).symm
theorem Wb (l:List UInt8):((Lib.cut l [32]).2.2 && gj (Lib.cut l [32]).1 && eG (Lib.cut l [32]).2.1)=ny l:=by
 match l with
 |[]=>rfl
 |[c]=>
  by_cases h:c=32
  ·subst h;rfl
  ·have:Lib.index [c] [32]=-1:=by rw [iu,if_neg h];rfl
   unfold Lib.cut;rw [if_neg af];rfl
 |c::d::m=>
  by_cases h:c=32
  ·subst h;have:Lib.index (32::d::m) [32]=0:=by rw [iu,if_pos rfl]
   have hl:((Lib.cut (32::d::m) [32]).2.2 && gj (Lib.cut (32::d::m) [32]).1 && eG (Lib.cut (32::d::m) [32]).2.1)=false:=by
    unfold Lib.cut;rw [if_pos af,this];rfl
   rw [hl];unfold ny;split
   ·rename_i heq;cases heq;rfl
   ·rfl
  ·by_cases h2:d=32
   ·subst h2;have:Lib.index (c::32::m) [32]=1:=by
     rw [iu,if_neg h,iu,if_pos rfl];rfl
    unfold Lib.cut;rw [if_pos af,this];rfl
   ·have hc:ny (c::d::m)=false:=by
     unfold ny;split
     ·rename_i heq;cases heq;exact absurd rfl h2
     ·rfl
    rw [hc];unfold Lib.cut;split
    ·rename_i hp;have fR:=Lib.index_ge m [32];have h3:2≤Lib.index (c::d::m) [32]:=by
      rw [iu,if_neg h,iu,if_neg h2] at hp ⊢;generalize Lib.index m [32]=i at*;by_cases hi:i=-1
      ·subst hi;simp at hp
      ·have e1:(i==-1)=false:=by simpa using hi
       have e2:(i+1==-1)=false:=by
        cases e:(i+1==-1) with
        |false=>rfl
        |true=>have:=eq_of_beq e;omega
       simp only [e1,Bool.false_eq_true,if_false,e2] at hp ⊢;omega
     have h4:∃n,(Lib.index (c::d::m) [32]).toNat=n+2:=⟨(Lib.index (c::d::m) [32]).toNat - 2,by omega⟩;obtain⟨n,hn⟩:=h4;rw [hn];rfl
    ·rfl
theorem ag2:dy 141 2:=by
 intro s hs kp nk kc bE w hl;show Calls _ _ _ _ fun e w'=>e=.returned (.bool (ny s.data.toList))∧Below w.heap.size w w'
 rw [←Wb];have jf:s.data.toList.length=s.size:=ak;obtain⟨A,hA⟩:∃A:ByteArray,A=⟨(Lib.cut s.data.toList [32]).1.toArray⟩:=⟨_,rfl⟩;obtain⟨M,hM⟩:∃M:ByteArray,M=⟨(Lib.cut s.data.toList [32]).2.1.toArray⟩:=⟨_,rfl⟩;have hAd:A.data.toList=(Lib.cut s.data.toList [32]).1:=by rw [hA]
 have hMd:M.data.toList=(Lib.cut s.data.toList [32]).2.1:=by rw [hM]
 have hAs:A.size≤100000:=by
  have h1:A.data.toList.length=A.size:=ak;rw [hAd] at h1;unfold Lib.cut at h1;split at h1
  ·simp at h1;omega
  ·simp only at h1;omega
 have hMs:M.size≤100000:=by
  have h1:M.data.toList.length=M.size:=ak;rw [hMd] at h1;unfold Lib.cut at h1;split at h1
  ·simp at h1;omega
  ·simp at h1;omega
 have VT:Hid (∀w',Below w.heap.size w w'→Calls Tryz.prog 43 #[.string s,.string ⟨#[32]⟩] w' fun e w2=>e=.returned (.tuple #[.string A,.string M,.bool (Lib.cut s.data.toList [32]).2.2])∧Below w'.heap.size w' w2):=hid fun w' h=>by
  obtain⟨m,hm⟩:=(hl.later h).max;rw [hA,hM];exact(Tryz.strings_Cut s ⟨#[32]⟩ m w' af hm).mono fun e w2 ⟨h1,n,h2⟩=>⟨h1,by rw [h2];exact bN (Below.refl _ _) n⟩
 have H1:Hid (∀w',Below w.heap.size w w'→Calls Tryz.prog 186 #[.string A] w' fun e w2=>e=.returned (.bool (gj (Lib.cut s.data.toList [32]).1))∧Below w'.heap.size w' w2):=hid fun w' h=>by
  have:=wT A hAs w' (hl.later h)
  rwa [GR,hAd] at this
 have H2:Hid (∀w',Below w.heap.size w w'→Calls Tryz.prog 185 #[.string M] w' fun e w2=>e=.returned (.bool (eG (Lib.cut s.data.toList [32]).2.1))∧Below w'.heap.size w' w2):=hid fun w' h=>by
  have:=F4 M hMs w' (hl.later h)
  rwa [hMd] at this
 clear hl hA hM hAd hMd jf;generalize (Lib.cut s.data.toList [32]).2.2=x at*;generalize gj (Lib.cut s.data.toList [32]).1=y at*;generalize eG (Lib.cut s.data.toList [32]).2.1=z at*;cases x
 all_goals cases y
 all_goals
  go_enter Tryz.func141,Tryz.ntmps141;go_wp2_with (first
   |(go_at_call 43;((with_reducible refine(VT.out _ ?_).mono ?_));rotate_left;rintro e w' ⟨rfl,hb⟩;obtain⟨g1,rfl⟩:=aC hb;clear hb)
   |(go_at_call 186;((with_reducible refine(H1.out _ ?_).mono ?_));rotate_left;rintro e w' ⟨rfl,hb⟩;obtain⟨g1,rfl⟩:=aC hb;clear hb)
   |(go_at_call 185;((with_reducible refine(H2.out _ ?_).mono ?_));rotate_left;rintro e w' ⟨rfl,hb⟩;obtain⟨g1,rfl⟩:=aC hb;clear hb))
  all_goals first
   |(go_ret;exact⟨rfl,dB⟩)
   |exact dB
end Go.Proofs.YtjchnliaglecoaaGreatDoor

/- A part of the proof. Conditions: none. -/
set_option maxRecDepth 100000
set_option maxHeartbeats 8000000
namespace Go.Proofs.YtjchnliaglecoaaGreatDoor
open Go Go.RowKit
theorem OS:eG []=false:=by decide+kernel
theorem Ij {l:List UInt8} (h:l.length<3):ny l=false:=by
 unfold ny;split
 ·rename_i c m;have:m=[]:=by simp at h;exact List.eq_nil_of_length_eq_zero af
  subst this;rw [OS,Bool.and_false]
 ·rfl
theorem ahb:dy 65 2:=by
 intro s hs kp nk kc bE w hl;show Calls _ _ _ _ fun e w'=>e=.returned (.bool (ny s.data.toList))∧Below w.heap.size w w'
 have jf:s.data.toList.length=s.size:=ak;by_cases h3:s.size<3
 ·have Hr:=hid (Ij (l:=s.data.toList) af);have h4:(s.size:Int)<3:=af;clear hl jf h3;exact iU
 ·obtain⟨c,d,m,nT⟩:∃c d m,s.data.toList=c::d::m:=by
   match h:s.data.toList with
   |[]=>rw [h] at jf;simp at jf;omega
   |[c]=>rw [h] at jf;simp at jf;omega
   |c::d::m=>exact⟨c,d,m,rfl⟩
  have h4:(3:Int)≤(s.size:Int):=af;have dL:1<s.size:=af;have hb1:(s[1]'dL).toNat=d.toNat:=by
   have h2:s[1]'dL=s.data.toList[1]'(by rw [jf];exact dL):=k6;rw [h2];simp [nT]
  obtain⟨A,hA⟩:∃A:ByteArray,s.extract 0 1=A:=⟨_,rfl⟩;obtain⟨M,hM⟩:∃M:ByteArray,s.extract 2 s.size=M:=⟨_,rfl⟩;have hAd:A.data.toList=[c]:=by
   have:=kF s 1 af;rw [ByteArray.toList_eq,hA,nT] at this;exact this
  have hMd:M.data.toList=m:=by rw [←hM,n4,nT];rfl
  have hMs:M.size≤100000:=by
   have h1:M.data.toList.length=M.size:=ak;rw [hMd] at h1;rw [nT] at jf;simp at jf;omega
  have H1:Hid (∀w',Below w.heap.size w w'→Calls Tryz.prog 115 #[.string A] w' fun e w2=>e=.returned (.bool (gj [c]))∧Below w'.heap.size w' w2):=hid fun w' h=>by
   have:=CC A w'
   rwa [hAd] at this
  have H2:Hid (∀w',Below w.heap.size w w'→Calls Tryz.prog 116 #[.string M] w' (k7 (eG m) w')):=hid fun w' h=>by
   have:=Cv M hMs w' (hl.later h)
   rwa [hMd] at this
  have h3':¬(s.size:Int)<3:=af;by_cases Iz:d=32
  ·have hr:ny s.data.toList=(gj [c] && eG m):=by rw [nT,Iz];rfl
   have hb2:(s[1]'dL).toNat=32:=by rw [hb1,Iz];rfl
   have h5:(2:Int)≤(s.size:Int):=af;have h6:(1:Int)≤(s.size:Int):=af;have h7:(1:Int)<(s.size:Int):=af;have Hr:=hid hr;clear hl hr nT hAd hMd hb1 h3 Iz jf;generalize gj [c]=x at*;generalize eG m=y at*;cases x
   all_goals
    go_enter Tryz.func65,Tryz.ntmps65;go_wp2_with (first
     |(go_at_call 115;((with_reducible refine(H1.out _ ?_).mono ?_));rotate_left;rintro e w' ⟨rfl,hb⟩;obtain⟨g1,rfl⟩:=aC hb;clear hb)
     |(go_at_call 116;((with_reducible refine(H2.out _ ?_).mono ?_));rotate_left;rintro e w' ⟨⟨z,rfl⟩,hb⟩;obtain⟨g1,rfl⟩:=aC hb;clear hb))
    all_goals first
     |(go_ret;exact⟨by rw [Hr.out];rfl,dB⟩)
     |exact dB
  ·have hr:ny s.data.toList=false:=by
    rw [nT];unfold ny;split
    ·rename_i heq;cases heq;exact absurd rfl Iz
    ·rfl
   have hb2:((d.toNat:Int) !=32)=true:=by
    rw [bne_iff_ne];intro e;exact Iz (UInt8.toNat_inj.1 (by show d.toNat=32;omega))
   have h7:(1:Int)<(s.size:Int):=af;have Hr:=hid hr;clear hl hr nT hAd hMd h3 Iz jf;generalize d.toNat=dn at*;exact iU
end Go.Proofs.YtjchnliaglecoaaGreatDoor

/- A part of the proof. Conditions: none. -/
set_option maxRecDepth 100000
set_option maxHeartbeats 8000000
namespace Go.Proofs.YtjchnliaglecoaaGreatDoor
open Go Go.RowKit
theorem Ry (k:Nat) (h1:1≤k) (h2:k≤36) (s:ByteArray) (hs:s.size≤100000) (kp:Option Addr) (nk kc:Nat) (bE:Int) (w:World) (hl:bZ w):
  Calls Tryz.prog 141 #[.agg #[.int .i64 (k:Int),.string s,.slice kp nk kc,.int .i64 bE]] w fun e w'=>e=.returned (.bool (ru k s.data.toList nk))∧Below w.heap.size w w':=by
 rcases(by omega:k=1∨k=2∨k=3∨k=4∨k=5∨k=6∨k=7∨k=8∨k=9∨k=10∨k=11∨k=12∨k=13∨k=14∨k=15∨k=16∨k=17∨k=18∨k=19∨k=20∨k=21∨k=22∨k=23∨k=24∨k=25∨k=26∨k=27∨k=28∨k=29∨k=30∨k=31∨k=32∨k=33∨k=34∨k=35∨k=36) with rfl|rfl|rfl|rfl|rfl|rfl|rfl|rfl|rfl|rfl|rfl|rfl|rfl|rfl|rfl|rfl|rfl|rfl|rfl|rfl|rfl|rfl|rfl|rfl|rfl|rfl|rfl|rfl|rfl|rfl|rfl|rfl|rfl|rfl|rfl|rfl
 ·exact ag1 s hs kp nk kc bE w hl
 ·exact ag2 s hs kp nk kc bE w hl
 ·exact ag3 s hs kp nk kc bE w hl
 ·exact ag4 s hs kp nk kc bE w hl
 ·exact ag5 s hs kp nk kc bE w hl
 ·exact ag6 s hs kp nk kc bE w hl
 ·exact ag7 s hs kp nk kc bE w hl
 ·exact ag8 s hs kp nk kc bE w hl
 ·exact ag9 s hs kp nk kc bE w hl
 ·exact Yi s hs kp nk kc bE w hl
 ·exact Yj s hs kp nk kc bE w hl
 ·exact Yk s hs kp nk kc bE w hl
 ·exact Yl s hs kp nk kc bE w hl
 ·exact Ym s hs kp nk kc bE w hl
 ·exact Yn s hs kp nk kc bE w hl
 ·exact Yo s hs kp nk kc bE w hl
 ·exact Yp s hs kp nk kc bE w hl
 ·exact Yq s hs kp nk kc bE w hl
 ·exact Yr s hs kp nk kc bE w hl
 ·exact Ys s hs kp nk kc bE w hl
 ·exact Yt s hs kp nk kc bE w hl
 ·exact Yu s hs kp nk kc bE w hl
 ·exact Yv s hs kp nk kc bE w hl
 ·exact Yw s hs kp nk kc bE w hl
 ·exact Yx s hs kp nk kc bE w hl
 ·exact Yy s hs kp nk kc bE w hl
 ·exact Yz s hs kp nk kc bE w hl
 ·exact YA s hs kp nk kc bE w hl
 ·exact YC s hs kp nk kc bE w hl
 ·exact YD s hs kp nk kc bE w hl
 ·exact YE s hs kp nk kc bE w hl
 ·exact YG s hs kp nk kc bE w hl
 ·exact YH s hs kp nk kc bE w hl
 ·exact YI s hs kp nk kc bE w hl
 ·exact YJ s hs kp nk kc bE w hl
 ·exact YK s hs kp nk kc bE w hl
theorem Q8 (k:Nat) (h1:1≤k) (h2:k≤36) (s:ByteArray) (hs:s.size≤100000) (kp:Option Addr) (nk kc:Nat) (bE:Int) (w:World) (hl:bZ w):
  Calls Tryz.prog 65 #[.agg #[.int .i64 (k:Int),.string s,.slice kp nk kc,.int .i64 bE]] w fun e w'=>e=.returned (.bool (ru k s.data.toList nk))∧Below w.heap.size w w':=by
 rcases(by omega:k=1∨k=2∨k=3∨k=4∨k=5∨k=6∨k=7∨k=8∨k=9∨k=10∨k=11∨k=12∨k=13∨k=14∨k=15∨k=16∨k=17∨k=18∨k=19∨k=20∨k=21∨k=22∨k=23∨k=24∨k=25∨k=26∨k=27∨k=28∨k=29∨k=30∨k=31∨k=32∨k=33∨k=34∨k=35∨k=36) with rfl|rfl|rfl|rfl|rfl|rfl|rfl|rfl|rfl|rfl|rfl|rfl|rfl|rfl|rfl|rfl|rfl|rfl|rfl|rfl|rfl|rfl|rfl|rfl|rfl|rfl|rfl|rfl|rfl|rfl|rfl|rfl|rfl|rfl|rfl|rfl
 ·exact aha s hs kp nk kc bE w hl
 ·exact ahb s hs kp nk kc bE w hl
 ·exact ahc s hs kp nk kc bE w hl
 ·exact ahd s hs kp nk kc bE w hl
 ·exact ahe s hs kp nk kc bE w hl
 ·exact ahf s hs kp nk kc bE w hl
 ·exact ahg s hs kp nk kc bE w hl
 ·exact ahh s hs kp nk kc bE w hl
 ·exact ahi s hs kp nk kc bE w hl
 ·exact YL s hs kp nk kc bE w hl
 ·exact YM s hs kp nk kc bE w hl
 ·exact YN s hs kp nk kc bE w hl
 ·exact YO s hs kp nk kc bE w hl
 ·exact YP s hs kp nk kc bE w hl
 ·exact XX s hs kp nk kc bE w hl
 ·exact YQ s hs kp nk kc bE w hl
 ·exact YR s hs kp nk kc bE w hl
 ·exact YS s hs kp nk kc bE w hl
 ·exact YT s hs kp nk kc bE w hl
 ·exact YU s hs kp nk kc bE w hl
 ·exact YV s hs kp nk kc bE w hl
 ·exact YW s hs kp nk kc bE w hl
 ·exact YX s hs kp nk kc bE w hl
 ·exact YY s hs kp nk kc bE w hl
 ·exact YZ s hs kp nk kc bE w hl
 ·exact Y0 s hs kp nk kc bE w hl
 ·exact Y1 s hs kp nk kc bE w hl
 ·exact Y2 s hs kp nk kc bE w hl
 ·exact Y3 s hs kp nk kc bE w hl
 ·exact Y4 s hs kp nk kc bE w hl
 ·exact Y5 s hs kp nk kc bE w hl
 ·exact Y6 s hs kp nk kc bE w hl
 ·exact Y7 s hs kp nk kc bE w hl
 ·exact Y8 s hs kp nk kc bE w hl
 ·exact Y9 s hs kp nk kc bE w hl
 ·exact Za s hs kp nk kc bE w hl
end Go.Proofs.YtjchnliaglecoaaGreatDoor
