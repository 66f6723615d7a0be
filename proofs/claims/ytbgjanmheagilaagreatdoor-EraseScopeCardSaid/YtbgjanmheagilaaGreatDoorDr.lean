/- A part of the proof. Conditions: none. -/
import Derived.Test.YtbgjanmheagilaaGreatDoorZz
import Derived.Test.YtbgjanmheagilaaGreatDoorDw
set_option linter.unusedVariables false
set_option linter.unusedSimpArgs false
set_option maxRecDepth 100000
set_option maxHeartbeats 8000000
namespace Go.Proofs.YtbgjanmheagilaaGreatDoor
open Go Go.RowKit Go.Nodes Go.WideShapes
theorem IU (p:Option Addr) (c:Nat) (xs:List Nd) (w:World) (ha:aj w p xs) (hs:Small xs):
  Calls Tryz.prog 45 #[.slice p xs.length c] w fun e w'=>e=.returned (.int .i64 (eD xs))∧Below w.heap.size w w':=by
 obtain⟨iI,Ei,Ej,Ek,El⟩:=info_parts Tryz.uo;have Ha:=hid ha;have Hs:=hid hs;clear ha hs;obtain⟨n,hn⟩:∃n,n=xs.length:=⟨_,rfl⟩;rw [←hn];have hn5:(n:Int)≤5000:=by have:=Hs.out.1;omega
 have Hn:=hid hn;clear hn;go_enter Tryz.func45,Tryz.ntmps45;go_wp2_with (refine wpList_make_full _ rfl _ _ 28 rfl w.heap.size 3 iI (.int .i64 0) 1 Tryz.underlying28 Ei Ej Ek .i64 .i64 _ _ n rfl rfl (by go_num) (by go_num) ?_ ?_ ?_ ?_)
 ·rw [El];omega
 ·unfold maxLen;omega
 ·simp
 intro w1 hO hG;obtain⟨g1,rfl⟩:=pH hO hG ai;clear hO hG;have lV:(madeCells #[Value.int .i64 0] n).toList=(List.replicate n (0:Int)).map (Value.int .i64):=by
  exact zx
 rw [lV];clear lV Ei Ej Ek El;go_wp2;go_loopw [13] (fun i wr=>∃(k:Nat) (row:List Int) (g:eo),k≤n∧i=.int .i64 k∧wr=grow (w.alloc (.cells (row.map (Value.int .i64)).toArray 3)) g∧
  Hid (∃ds:List Int,row=ds++List.replicate (n - k) 0∧ds.length=k∧(∀d∈ds,0≤d∧d≤k)∧bM (xs.drop k) ds=bM xs [])) (fun i _=>n - (intOf i).toNat)
 case atStart=>exact⟨0,List.replicate n 0,g1,by omega,rfl,by simp,[],by simp,rfl,by simp,rfl⟩
 case round=>
  obtain⟨k,row,g,hk,rfl,rfl,hR⟩:=hrel;by_cases hlt:k<n
  ·have SL:=trivial;exact abR
  ·obtain rfl:k=n:=by omega
   obtain⟨ds,hrow,lH,hdb,F5⟩:=hR.out;have PJ:ds=bM xs []:=by rw [←F5,Hn.out,List.drop_length];rfl
   have hrow2:row=ds:=by rw [hrow,show k - k=0 by omega];simp
   have H8:eD xs=lW ds:=by rw [PJ];rfl
   by_cases JM:k=0
   ·have hd0:ds=[]:=List.eq_nil_of_length_eq_zero aa;have e:lW ds=0:=by rw [hd0];rfl
    have XJ:=hid (H8.trans e);have tD:((k:Int)==0)=true:=by simp [JM]
    exact KP
   ·have JN:row[k - 1]?=some (lW ds):=by
     rw [hrow2,lW,List.getLastD_eq_getLast?,List.getLast?_eq_getElem?,lH,List.getElem?_eq_getElem aa];rfl
    have tD:((k:Int)==0)=false:=by simpa using JM
    have hk2:((k:Int) - 1).toNat=k - 1:=aa;have hk3:(k:Int) - 1<(k:Int):=aa;have hk4:(0:Int)≤(k:Int) - 1:=aa;have hk5:(1:Int)≤(k:Int):=aa;exact UI
end Go.Proofs.YtbgjanmheagilaaGreatDoor