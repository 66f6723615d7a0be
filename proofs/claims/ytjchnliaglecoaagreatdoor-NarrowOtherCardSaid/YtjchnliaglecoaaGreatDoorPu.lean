/- A part of the proof. Conditions: none. -/
import Derived.Test.YtjchnliaglecoaaGreatDoorZz
import Derived.Test.YtjchnliaglecoaaGreatDoorPkX
set_option linter.unusedVariables false
set_option linter.unusedSimpArgs false
set_option maxRecDepth 100000
set_option maxHeartbeats 8000000
namespace Go.Proofs.YtjchnliaglecoaaGreatDoor
open Go Go.RowKit Go.Nodes
def tsE (vs:List Value) (x:Int × Int):Prop:=vs=[.int .i64 x.1,.int .i64 x.2]
theorem Cw:∀(l:List (Int × Int)) (i:Nat) (h:i<l.length) (j:Nat),j<2→(eH l)[i*2+j]?=([.int .i64 l[i].1,.int .i64 l[i].2]:List Value)[j]?
 |x::l,0,h,j,hj=>by
  have e:eH (x::l)=.int .i64 x.1::.int .i64 x.2::eH l:=by simp [eH]
  rw [e];have:j=0∨j=1:=af;rcases this with rfl|rfl<;>rfl
 |x::l,i+1,h,j,hj=>by
  have e:eH (x::l)=.int .i64 x.1::.int .i64 x.2::eH l:=by simp [eH]
  have h2:=Cw l i oI j hj;rw [e,show(i+1)*2+j=(i*2+j)+1+1 by omega,List.getElem?_cons_succ,List.getElem?_cons_succ,h2];rfl
theorem uG {B:Nat} {w:World} {v:Value} {l:List (Int × Int)} (h:w.ownsRow B 58 2 v l.length (eH l)):∃p c,v=.slice p l.length c∧gN w 2 tsE p l:=by
 rcases h.2 with⟨h1,h2⟩|⟨g,cap,cur,hv,hg,hh,hn,hm,hsz,uV⟩
 ·exact Jg
 ·refine⟨_,_,hv,.inr ⟨g,0,rfl,(Array.getElem?_eq_some_iff.1 hh).1,fun i hi=>⟨[.int .i64 l[i].1,.int .i64 l[i].2],rfl,fun j x hj=>?_,rfl⟩⟩⟩;have hj2:j<2:=(List.getElem?_eq_some_iff.1 hj).1;rw [Nat.zero_add,cell_of_row w g (i*2+j) cur 58 (0,0) hh,←hj,←Cw l i hi j hj2,←uV,List.getElem?_take,if_pos af];simp
theorem GZ {W:World} {p:Option Addr} {xs:List (Int × Int)} (h:gN W 2 tsE p xs) {i:Nat} (hi:i<xs.length):∃b o,p=some ⟨b,o,none⟩∧b<W.heap.size∧W.cell? ⟨b,o+i*2,none⟩=some (.int .i64 xs[i].1)∧W.cell? ⟨b,o+i*2+1,none⟩=some (.int .i64 xs[i].2):=by
 obtain⟨b,o,hp,hl,vs,h1,h2,h3⟩:=h.at hi;exact⟨b,o,hp,hl,by simpa using h2 0 (.int .i64 xs[i].1) (by rw [h3];rfl),h2 1 (.int .i64 xs[i].2) (by rw [h3];rfl)⟩
theorem anW (a b:Int) (w:World):(Op.equalIn 10000 58 (.agg #[.int .i64 a,.int .i64 b]) (.agg #[.int .i64 a,.int .i64 b])).run Tryz.prog w=.ok true w:=by
 rw [show(10000:Nat)=9998+1+1 from rfl,run_equalIn_agg w _ 58 _ _ (by simp only [Program.fieldsOf,Tryz.underlying58]) Tryz.stoodInHeld58];simp only [Program.fieldsOf,Tryz.underlying58,Op.eqFields];simp [go_sem,Tryz.underlying3,part]
theorem ah2 (W:World) (B1 B2:Nat) (u v:Value) (xs:List (Int × Int)) (hx:fT B1 W u xs) (hy:fT B2 W v xs) (lx:xs.length≤5000):
  Calls Tryz.prog 11 #[u,v] W fun e w'=>e=.returned (.bool true)∧Below W.heap.size W w':=by
 obtain⟨p,c,rfl,rx⟩:=uG hx.row;obtain⟨q,d,rfl,ry⟩:=uG hy.row;have Hx:=hid rx;have Hy:=hid ry;clear hx hy rx ry;obtain⟨n,hn⟩:∃n,n=xs.length:=⟨_,rfl⟩;rw [←hn] at lx ⊢;have Hn:=hid hn;have lx2:(n:Int)≤5000:=af;clear hn lx;go_enter Tryz.func11,Tryz.ntmps11;go_wp2;go_loopw [13] (fun iv wr=>∃(i:Nat) (r:Nat),i≤n∧iv=.int .i64 i∧wr=W.drewN r) (fun iv _=>n - (intOf iv).toNat)
 case atStart=>exact⟨0,0,Nat.zero_le _,rfl,rfl⟩
 case round=>
  obtain⟨i,r,hi,rfl,rfl⟩:=hrel;by_cases AJ:i<n
  ·have EA:i<xs.length:=by have:=Hn.out;omega
   have n0:(0:Int)≤(i:Int):=af;have n1:(i:Int)<(n:Int):=af;obtain⟨b,o,rfl,hb,c0,c1⟩:=GZ Hx.out EA;obtain⟨b',o',rfl,hb',c0',c1'⟩:=GZ Hy.out EA;generalize xs[i].1=x1 at*;generalize xs[i].2=x2 at*;have hq:=anW x1 x2;go_wp2;go_quiet (fail);go_wp2;go_roundw
   case rel=>exact⟨i+1,_,by omega,by go_num,by first|rfl|exact World.drewN_drewN _ _ _⟩
   case measure=>simp [intOf];omega
  ·obtain rfl:i=n:=by omega
   go_wp2;go_ret;exact⟨rfl,bN (Below.refl _ _) _⟩
end Go.Proofs.YtjchnliaglecoaaGreatDoor
