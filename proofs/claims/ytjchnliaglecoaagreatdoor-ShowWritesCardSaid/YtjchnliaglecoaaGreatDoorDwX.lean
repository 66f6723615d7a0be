/- A part of the proof. Conditions: none. -/
import Derived.Test.YtjchnliaglecoaaGreatDoorNodes
import Derived.Test.YtjchnliaglecoaaGreatDoorBase
import Derived.Test.YtjchnliaglecoaaGreatDoorProg
import Derived.Test.YtjchnliaglecoaaGreatDoorZz
import Derived.Test.YtjchnliaglecoaaGreatDoorNodesB
import Derived.Test.YtjchnliaglecoaaGreatDoorBaseB
import Derived.Lib.OwnKind
import Derived.Outline
import Derived.Deep.QuietTactic
import Derived.BigQuiet
set_option linter.unusedVariables false
set_option linter.unusedSimpArgs false
set_option maxRecDepth 100000
set_option maxHeartbeats 8000000
namespace Go.Proofs.YtjchnliaglecoaaGreatDoor
open Go Go.RowKit Go.Nodes
end Go.Proofs.YtjchnliaglecoaaGreatDoor
/- A part of the proof. Conditions: none. -/
set_option maxRecDepth 100000
set_option maxHeartbeats 8000000
namespace Go.Proofs.YtjchnliaglecoaaGreatDoor
open Go Go.RowKit Go.Nodes
def Small (ns:List Nd):Prop:=ns.length≤5000∧∀x∈ns,x.kids.length≤20000∧x.text.size≤20000
def jd (ds:List Int):List Int→Int→Int
 |[],m=>m
 |k::l,m=>jd ds l (if 0≤k∧k<ds.length then max m (ds.getD k.toNat 0) else m)
def jF:List Nd→List Int→List Int
 |[],ds=>ds
 |x::l,ds=>jF l (ds++[jd ds x.kids 0+1])
def nV (ds:List Int):Int:=ds.getLastD 0
def iX (ns:List Nd):Int:=nV (jF ns [])
theorem BX (ns:List Nd) (k:Nat) (hk:k<ns.length) (ds:List Int):jF (ns.drop k) ds=jF (ns.drop (k+1)) (ds++[jd ds ns[k].kids 0+1]):=by
 exact uq
theorem B5 (ds:List Int) (l:List Int) (j:Nat) (hj:j<l.length) (m:Int):jd ds (l.drop j) m=jd ds (l.drop (j+1)) (if 0≤l[j]∧l[j]<ds.length then max m (ds.getD l[j].toNat 0) else m):=by
 rw [List.drop_eq_getElem_cons hj];rfl
end Go.Proofs.YtjchnliaglecoaaGreatDoor
/- A part of the proof. Conditions: none. -/
set_option maxRecDepth 100000
set_option maxHeartbeats 8000000
namespace Go.Proofs.YtjchnliaglecoaaGreatDoor
open Go.RowKit
theorem uM {W w1:World} {B n m:Nat} {e:TypeId} {xs:List Value} (hO:w1.ownsRow B e 1 (.slice (some ⟨m,0,none⟩) n n) n xs) (hg:W.grownBy w1 none) (hm:m=W.heap.size):∃g,w1=grow (W.alloc (.cells xs.toArray e)) g:=by
 subst hm;obtain⟨hl,h2⟩:=hO;rcases h2 with⟨h0,_⟩|⟨g',cap,cur,hv,_,hh,_,_,hsz,sx⟩
 ·cases h0
 cases hv;have akQ:cur=xs.toArray:=by
  apply Array.toList_inj.1;rw [←sx,List.take_of_length_le cr]
 subst akQ;refine ay ⟨hg.os,hg.tape,hg.output, ?_,fun k hk=>?_⟩
 ·have:=(Array.getElem?_eq_some_iff.1 hh).1;simp;omega
 ·simp at hk;rcases Nat.lt_or_ge k W.heap.size with h|h
  ·rw [hg.block k h ak,heap_alloc_old _ _ h]
  ·obtain rfl:k=W.heap.size:=by omega
   rw [hh,heap_alloc_new]
end Go.Proofs.YtjchnliaglecoaaGreatDoor
/- A part of the proof. Conditions: none. -/
set_option maxRecDepth 100000
set_option maxHeartbeats 8000000
namespace Go.Proofs.YtjchnliaglecoaaGreatDoor
open Go Go.RowKit Go.Nodes Go.WideShapes
theorem Tryz.M6:(Tryz.prog.info? 3).map (fun i=>(i.zero,i.size,i.bytes))=some (some (.int .i64 0),1,8):=by kernel_rfl
def _root_.Go.Proofs.YtjchnliaglecoaaGreatDoor.fk.put (g:fk) (o:Obj):fk:=⟨g.blocks.push o,g.drawn⟩
theorem uZ (A:World) (g:fk) (o:Obj):(grow A g).alloc o=grow A (fk.put g o):=by
 simp [grow,World.alloc,fk.put]
theorem drew_grow (A:World) (g:fk):(grow A g).drew=grow A ⟨g.blocks,(grow A g).drew.drawn⟩:=rfl
theorem D6 (A:World) (g:fk) (k:Nat):(grow A g).drewN k=grow A ⟨g.blocks,((grow A g).drewN k).drawn⟩:=rfl
theorem M7 (p:Option Addr) (c:Nat) (xs:List Nd) (w:World) (ha:aA w p xs) (hs:Small xs):
  Calls Tryz.prog 93 #[.slice p xs.length c] w fun e w'=>e=.returned (.int .i64 (iX xs))∧Below w.heap.size w w':=by
 obtain⟨iI,hiI,zI0,zI1,zI2⟩:=info_parts Tryz.M6;have Ha:=hid ha;have Hs:=hid hs;clear ha hs;obtain⟨n,hn⟩:∃n,n=xs.length:=⟨_,rfl⟩;rw [←hn];have hn5:(n:Int)≤5000:=by have:=Hs.out.1;omega
 have Hn:=hid hn;clear hn;go_enter Tryz.func93,Tryz.ntmps93;go_wp2_with (refine wpList_make_full _ rfl _ _ 26 rfl w.heap.size 3 iI (.int .i64 0) 1 Tryz.underlying26 hiI zI0 zI1 .i64 .i64 _ _ (n+1) rfl rfl (by go_num) (by go_num) ?_ ?_ ?_ ?_)
 ·rw [zI2];omega
 ·unfold maxLen;omega
 ·simp
 intro w1 hO hG;obtain⟨g1,rfl⟩:=uM hO hG ak;clear hO hG;have rU:(madeCells #[Value.int .i64 0] (n+1)).toList=(List.replicate (n+1) (0:Int)).map (Value.int .i64):=by
  rw [toList_madeCells_one,List.map_replicate]
 rw [rU];clear rU hiI zI0 zI1 zI2;go_wp2;go_loopw [14] (fun i wr=>∃(k:Nat) (row:List Int) (g:fk),k≤n∧i=.int .i64 k∧wr=grow (w.alloc (.cells (row.map (Value.int .i64)).toArray 3)) g∧
  Hid (∃ds:List Int,row=ds++List.replicate (n+1 - k) 0∧ds.length=k∧(∀d∈ds,0≤d∧d≤k)∧jF (xs.drop k) ds=jF xs [])) (fun i _=>n - (intOf i).toNat)
 case atStart=>exact⟨0,List.replicate (n+1) 0,g1,by omega,rfl,by simp,[],by simp,rfl,by simp,rfl⟩
 case round=>
  obtain⟨k,row,g,hk,rfl,rfl,hR⟩:=hrel;by_cases hlt:k<n
  ·have M8:=trivial;exact Yw
  ·obtain rfl:k=n:=by omega
   obtain⟨ds,hrow,qa,hdb,Bg⟩:=hR.out;have QF:ds=jF xs []:=by rw [←Bg,Hn.out,List.drop_length];rfl
   have hrow2:row=ds++[0]:=by rw [hrow,show k+1 - k=1 by omega];rfl
   have H6:iX xs=nV ds:=by rw [QF];rfl
   by_cases QI:k=0
   ·have XS:ds=[]:=List.eq_nil_of_length_eq_zero aa;have hr0:row[0]?=some 0:=by rw [hrow2,XS];rfl
    have e:nV ds=0:=by rw [XS];rfl
    have abD:=hid (H6.trans e);have aR:(k:Int) - 1<0:=aa;exact M9
   ·have hr0:row[k - 1]?=some (nV ds):=by
     rw [hrow2,List.getElem?_append_left aa,nV,List.getLastD_eq_getLast?,List.getLast?_eq_getElem?,qa,List.getElem?_eq_getElem aa];rfl
    have aR:¬((k:Int) - 1<0):=aa;have hk2:((k:Int) - 1).toNat=k - 1:=aa;have hk3:(k:Int) - 1<(k:Int)+1:=aa;exact Yx
end Go.Proofs.YtjchnliaglecoaaGreatDoor