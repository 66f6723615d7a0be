/- A part of the proof. Conditions: none. -/
import Derived.Test.YtjchnliaglecoaaGreatDoorZz
import Derived.Test.YtjchnliaglecoaaGreatDoorDwX
set_option linter.unusedVariables false
set_option linter.unusedSimpArgs false
set_option maxRecDepth 100000
set_option maxHeartbeats 8000000
namespace Go.Proofs.YtjchnliaglecoaaGreatDoor
open Go Go.RowKit Go.Nodes Go.WideShapes
theorem GX (p:Option Addr) (c:Nat) (xs:List Nd) (w:World) (ha:aA w p xs) (hs:Small xs):
  Calls Tryz.prog 62 #[.slice p xs.length c] w fun e w'=>e=.returned (.int .i64 (iX xs))∧Below w.heap.size w w':=by
 obtain⟨iI,hiI,zI0,zI1,zI2⟩:=info_parts Tryz.M6;have Ha:=hid ha;have Hs:=hid hs;clear ha hs;obtain⟨n,hn⟩:∃n,n=xs.length:=⟨_,rfl⟩;rw [←hn];have hn5:(n:Int)≤5000:=by have:=Hs.out.1;omega
 have Hn:=hid hn;clear hn;go_enter Tryz.func62,Tryz.ntmps62;go_wp2_with (refine wpList_make_full _ rfl _ _ 26 rfl w.heap.size 3 iI (.int .i64 0) 1 Tryz.underlying26 hiI zI0 zI1 .i64 .i64 _ _ n rfl rfl (by go_num) (by go_num) ?_ ?_ ?_ ?_)
 ·rw [zI2];omega
 ·unfold maxLen;omega
 ·simp
 intro w1 hO hG;obtain⟨g1,rfl⟩:=uM hO hG ak;clear hO hG;have rU:(madeCells #[Value.int .i64 0] n).toList=(List.replicate n (0:Int)).map (Value.int .i64):=by
  rw [toList_madeCells_one,List.map_replicate]
 rw [rU];clear rU hiI zI0 zI1 zI2;go_wp2;go_loopw [13] (fun i wr=>∃(k:Nat) (row:List Int) (g:fk),k≤n∧i=.int .i64 k∧wr=grow (w.alloc (.cells (row.map (Value.int .i64)).toArray 3)) g∧
  Hid (∃ds:List Int,row=ds++List.replicate (n - k) 0∧ds.length=k∧(∀d∈ds,0≤d∧d≤k)∧jF (xs.drop k) ds=jF xs [])) (fun i _=>n - (intOf i).toNat)
 case atStart=>exact⟨0,List.replicate n 0,g1,by omega,rfl,by simp,[],by simp,rfl,by simp,rfl⟩
 case round=>
  obtain⟨k,row,g,hk,rfl,rfl,hR⟩:=hrel;by_cases hlt:k<n
  ·have OU:=trivial;exact Yw
  ·obtain rfl:k=n:=by omega
   obtain⟨ds,hrow,qa,hdb,Bg⟩:=hR.out;have QF:ds=jF xs []:=by rw [←Bg,Hn.out,List.drop_length];rfl
   have hrow2:row=ds:=by rw [hrow,show k - k=0 by omega];simp
   have H6:iX xs=nV ds:=by rw [QF];rfl
   by_cases QI:k=0
   ·have XS:ds=[]:=List.eq_nil_of_length_eq_zero aa;have e:nV ds=0:=by rw [XS];rfl
    have abD:=hid (H6.trans e);have aR:((k:Int)==0)=true:=by simp [QI]
    exact M9
   ·have hr0:row[k - 1]?=some (nV ds):=by
     rw [hrow2,nV,List.getLastD_eq_getLast?,List.getLast?_eq_getElem?,qa,List.getElem?_eq_getElem aa];rfl
    have aR:((k:Int)==0)=false:=by simpa using QI
    have hk2:((k:Int) - 1).toNat=k - 1:=aa;have hk3:(k:Int) - 1<(k:Int):=aa;have hk4:(0:Int)≤(k:Int) - 1:=aa;have wu:(1:Int)≤(k:Int):=aa;exact Yx
end Go.Proofs.YtjchnliaglecoaaGreatDoor