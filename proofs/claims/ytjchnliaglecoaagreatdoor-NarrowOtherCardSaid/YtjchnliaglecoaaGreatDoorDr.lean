/- A part of the proof. Conditions: none. -/
import Derived.Test.YtjchnliaglecoaaGreatDoorZz
import Derived.Test.YtjchnliaglecoaaGreatDoorDwX
set_option linter.unusedVariables false
set_option linter.unusedSimpArgs false
set_option maxRecDepth 100000
set_option maxHeartbeats 8000000
namespace Go.Proofs.YtjchnliaglecoaaGreatDoor
open Go Go.RowKit Go.Nodes Go.WideShapes
theorem Nq (p:Option Addr) (c:Nat) (xs:List Nd) (w:World) (ha:ay w p xs) (hs:Small xs):
  Calls Tryz.prog 62 #[.slice p xs.length c] w fun e w'=>e=.returned (.int .i64 (lB xs))∧Below w.heap.size w w':=by
 obtain⟨iI,Ao,Ap,Aq,Ar⟩:=info_parts Tryz.rB;have Ha:=hid ha;have Hs:=hid hs;clear ha hs;obtain⟨n,hn⟩:∃n,n=xs.length:=⟨_,rfl⟩;rw [←hn];have hn5:(n:Int)≤5000:=by have:=Hs.out.1;omega
 have Hn:=hid hn;clear hn;go_enter Tryz.func62,Tryz.ntmps62;go_wp2_with (refine wpList_make_full _ rfl _ _ 26 rfl w.heap.size 3 iI (.int .i64 0) 1 Tryz.underlying26 Ao Ap Aq .i64 .i64 _ _ n rfl rfl (by go_num) (by go_num) ?_ ?_ ?_ ?_)
 ·rw [Ar];omega
 ·unfold maxLen;omega
 ·simp
 intro w1 hO hG;obtain⟨g1,rfl⟩:=tY hO hG ak;clear hO hG;have p8:(madeCells #[Value.int .i64 0] n).toList=(List.replicate n (0:Int)).map (Value.int .i64):=by
  exact Dj
 rw [p8];clear p8 Ao Ap Aq Ar;go_wp2;go_loopw [13] (fun i wr=>∃(k:Nat) (row:List Int) (g:gQ),k≤n∧i=.int .i64 k∧wr=grow (w.alloc (.cells (row.map (Value.int .i64)).toArray 3)) g∧
  Hid (∃ds:List Int,row=ds++List.replicate (n - k) 0∧ds.length=k∧(∀d∈ds,0≤d∧d≤k)∧mL (xs.drop k) ds=mL xs [])) (fun i _=>n - (intOf i).toNat)
 case atStart=>exact⟨0,List.replicate n 0,g1,by omega,rfl,by simp,[],by simp,rfl,by simp,rfl⟩
 case round=>
  obtain⟨k,row,g,hk,rfl,rfl,hR⟩:=hrel;by_cases hlt:k<n
  ·have aaE:=trivial;exact amd
  ·obtain rfl:k=n:=by omega
   obtain⟨ds,hrow,sN,hdb,Lu⟩:=hR.out;have Xf:ds=mL xs []:=by rw [←Lu,Hn.out,List.drop_length];rfl
   have hrow2:row=ds:=by rw [hrow,show k - k=0 by omega];simp
   have NP:lB xs=rD ds:=by rw [Xf];rfl
   by_cases C7:k=0
   ·have hd0:ds=[]:=List.eq_nil_of_length_eq_zero af;have e:rD ds=0:=by rw [hd0];rfl
    have ahD:=hid (NP.trans e);have r7:((k:Int)==0)=true:=by simp [C7]
    exact SG
   ·have EE:row[k - 1]?=some (rD ds):=by
     rw [hrow2,rD,List.getLastD_eq_getLast?,List.getLast?_eq_getElem?,sN,List.getElem?_eq_getElem af];rfl
    have r7:((k:Int)==0)=false:=by simpa using C7
    have hk2:((k:Int) - 1).toNat=k - 1:=af;have hk3:(k:Int) - 1<(k:Int):=af;have hk4:(0:Int)≤(k:Int) - 1:=af;have hk5:(1:Int)≤(k:Int):=af;exact SH
end Go.Proofs.YtjchnliaglecoaaGreatDoor
