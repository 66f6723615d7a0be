/- A part of the proof. Conditions: none. -/
import Derived.RangeFuncNested
import Derived.RangeFuncBound
import Derived.RangeFuncCalls
import Derived.RangeFuncLeaves
import Derived.RangeFuncFrom
import Derived.Shelf.Abstract
import Derived.Shelf.RegionOpen
import Derived.OwnWalkIn
import Derived.TacticsInMore
import Derived.LoopNIn
import Derived.LoopIn
import Derived.Test.YtbgjanmheagilaaGreatDoorZz
import Derived.Test.YtbgjanmheagilaaGreatDoorEaX
import Derived.Maps.OwnSet
import Derived.Deep.AppendLies
import Derived.StillTailTactics
import Derived.Lib.OwnKind
import Derived.RangeFuncWrites
import Derived.RangeFuncBox
import Derived.Deep.RegionHeld3
set_option linter.unusedVariables false
set_option linter.unusedSimpArgs false
set_option maxRecDepth 100000
set_option maxHeartbeats 8000000
namespace Go.Proofs.YtbgjanmheagilaaGreatDoor
open Go Go.RowKit Go.Nodes Go.Shelf
attribute [local go_sem] Oper.semAt_some
def yY (x:Int × Bool):Array Value:=#[.int .i64 x.1,.bool x.2]
def qj (us:List Bool) (j:Nat):List (Int × Bool):=(List.range j).map fun(i:Nat)=>((i:Int),us.getD i false)
theorem gM (us:List Bool) (j:Nat):(qj us j).length=j:=by simp [qj]
theorem Jb (us:List Bool) (j:Nat):qj us (j+1)=qj us j++[((j:Int),us.getD j false)]:=by simp [qj,List.range_succ]
theorem Cy (us:List Bool) (j k:Nat) (h:k<(qj us j).length):(qj us j)[k]=((k:Int),us.getD k false):=by simp [qj]
def vG (ns:List Nd) (us:List Bool):Prop:=∀i:Nat,us.getD i false=true→aq (ag ns (i:Int))=true
theorem E5 (ns:List Nd) (n:Nat):vG ns (List.replicate n false):=fun i h=>by
 rw [List.getD,List.getElem?_replicate] at h;split at h<;>cases h
theorem gj {ns:List Nd} {us:List Bool} {z:Nat} {b:Bool} (h:vG ns us) (hb:b=true→aq (ag ns (z:Int))=true):vG ns (us.set z b):=fun i hi=>by
 by_cases e:i=z
 ·subst e;by_cases hl:i<us.length
  ·rw [List.getD,List.getElem?_set_self hl] at hi;exact hb hi
  ·rw [List.getD,List.getElem?_eq_none ud] at hi;cases hi
 ·refine h i ?_;rw [List.getD,List.getElem?_set_ne (fun h=>e h.symm)] at hi;exact hi
theorem sG {a w:World} (h:Below a.heap.size a w):w=grow a (Classical.choose (aA h)):=Classical.choose_spec (aA h)
theorem MD (n l Bl:Nat) (J Jx:List (Int × Bool)→World→Prop) (Kp:World→World→Prop) (ns:List Nd) (p:Option Addr) (c:Nat) (w0:World) (ha:aj w0 p ns) (hs:Small ns) (QK:Sound ns)
  (hKp:∀(A B:World) (b:Nat) (cs:Array Value),w0.heap.size≤b→Kp A B→A.heap[b]?=some (.cells cs 4 (0,0))→B.heap[b]?=some (.cells cs 4 (0,0))) (hKb:∀(A B:World),Kp A B→Below w0.heap.size A B)
  (hY:∀pre x W,J pre W→pre.length<ns.length→x.1=(pre.length:Int)→(x.2=true→aq (ag ns x.1)=true)→YieldAt Fence.wide (n - 1) Tryz.prog l (yY x) W fun e W'=>
   (e=.returned (.bool true)∧J (pre++[x]) W'∧Kp W W')∨(e=.returned (.bool false)∧Jx (pre++[x]) W'))
  (W:World) (hB:Below w0.heap.size w0 W) (hJ:AbidesFrom W.heap.size J) (Ca:Bl<W.heap.size) (hBl:W.cell? ⟨Bl,0,none⟩=some (.slice p ns.length c)) (h0:J [] W):
  CallsIn Fence.wide n Tryz.prog 59 #[.func (.yield l) #[] #[],.pointer (some ⟨Bl,0,none⟩)] W fun e W'=>(∃v,e=.returned v)∧
   ((∃ys:List (Int × Bool),(ys.length=ns.length∧∀(i:Nat) (h:i<ys.length),ys[i].1=(i:Int)∧(ys[i].2=true→aq (ag ns (i:Int))=true))∧J ys W')∨(∃pre,Jx pre W')):=by
 have TF:=trivial;exact acP
end Go.Proofs.YtbgjanmheagilaaGreatDoor
/- A part of the proof. Conditions: none. -/
set_option maxRecDepth 100000
set_option maxHeartbeats 8000000
namespace Go.Proofs.YtbgjanmheagilaaGreatDoor
open Go Go.RowKit Go.Nodes Go.WideMaps Go.Maps Go.ChangeShapes
theorem G1:Keyed Tryz.prog 3:=int_keyed Tryz.underlying3
theorem Tryz.abI:(Tryz.prog.info? 30).map (fun i=>(i.zero,i.size,i.bytes))=some (some (.agg #[.int .i64 0,.string ⟨#[]⟩,.slice none 0 0,.int .i64 0]),4,56):=by kernel_rfl
abbrev jt (w:World) (b n:Nat) (D:DataW Unit):Prop:=w.ownsMap Tryz.prog 3 (plainElem Tryz.prog 3) b n D
structure jH (Mb:Nat) (A B:World):Prop where
 cells:∀(b:Nat) (cs:Array Value) (t:Nat),t≠53→t≠30→A.heap[b]?=some (.cells cs t (0,0))→B.heap[b]?=some (.cells cs t (0,0))
 Kh:∀(b:Nat) (o:Obj),b≠Mb→o.isCells=false→A.heap[b]?=some o→B.heap[b]?=some o
theorem jH.trans {Mb:Nat} {A B C:World} (h:jH Mb A B) (k:jH Mb B C):jH Mb A C:=
 ⟨fun b cs t t1 t2 h1=>k.cells b cs t t1 t2 (h.cells b cs t t1 t2 h1),fun b o hb ho h1=>k.Kh b o hb ho (h.Kh b o hb ho h1)⟩
theorem Bg {w w':World} (hb:Below w.heap.size w w'):w.grownBy w' none:=⟨hb.os,hb.tape,hb.output,hb.size,fun n h _=>hb.block n h⟩
theorem bY {w:World} {b:Nat} {cs:Array Value} {t:TypeId} (h:w.heap[b]?=some (.cells cs t (0,0))) (i:Nat) (u:Value):(w.setCell ⟨b,i,none⟩ u).heap[b]?=some (.cells (cs.setIfInBounds i u) t (0,0)):=by
 have hlt:=(Array.getElem?_eq_some_iff.1 h).1;have h':w.heap[b]=.cells cs t (0,0):=by simpa [Array.getElem?_eq_getElem hlt] using h
 show(w.heap.modify b _)[b]?=_;rw [Array.getElem?_eq_getElem (by simpa using hlt),Array.getElem_modify_self,h'];rfl
end Go.Proofs.YtbgjanmheagilaaGreatDoor