/- A part of the proof. Conditions: none. -/
import Derived.WalkKit
import Derived.WalkSpells
import Derived.WalkLawsBesides
import Derived.LoopTactic
import Derived.Below
import Derived.RegionTactic
import Derived.ChangeAlike
import Derived.Deep.QuietTactic
import Derived.BigQuiet
import Derived.LoopN
import Derived.Laws.RangeString
import Derived.Laws.RangeAny
import Derived.Test.YtbgjanmheagilaaGreatDoorZz
set_option linter.unusedVariables false
set_option linter.unusedSimpArgs false
set_option maxRecDepth 100000
set_option maxHeartbeats 8000000
namespace Go.Proofs.YtbgjanmheagilaaGreatDoor
open Go.RowKit
@[go_sem] theorem afb (a b0 : Nat) : a < a + 1 + b0 := by omega
@[go_sem] theorem afc (a b b0 : Nat) (h : a < b) : a < b + b0 := by omega
@[go_sem] theorem afd (a b0 b1 : Nat) : a < a + 1 + b0 + b1 := by omega
@[go_sem] theorem afe (a b b0 b1 : Nat) (h : a < b) : a < b + b0 + b1 := by omega
@[go_sem] theorem aff (a b b0 b1 b2 : Nat) (h : a < b) : a < b + b0 + b1 + b2 := by omega
theorem hid {p:Prop} (h:p):Hid p:=h
structure eo where
 blocks:Array Obj
 drawn:Nat
def eo.size (g:eo):Nat:=g.blocks.size
def grow (w:World) (g:eo):World:={w with heap:=w.heap++g.blocks,drawn:=g.drawn}
@[simp, go_sem] theorem size_grow (w : World) (g : eo) : (grow w g).heap.size = w.heap.size + g.size := by
 simp [grow,eo.size]
theorem dS (w:World) (g:eo) (n:Nat) (h:n<w.heap.size):(grow w g).heap[n]?=w.heap[n]?:=by
 simp only [grow,Array.getElem?_append,h,if_true]
@[go_sem] theorem abo (w : World) (g : eo) (n i : Nat) (h : n < w.heap.size) : (grow w g).cell? ⟨n, i, none⟩ = w.cell? ⟨n, i, none⟩ :=
 World.cell?_of_block (w:=w) (dS w g n h)
@[go_sem] theorem Xk (w : World) (g : eo) (n i : Nat) (h : n < w.heap.size) : (grow w g).frozen? ⟨n, i, none⟩ = w.frozen? ⟨n, i, none⟩ :=
 World.frozen?_of_block (w:=w) (dS w g n h)
@[go_sem] theorem qa (w : World) (g : eo) (n i : Nat) (v : Value) (h : n < w.heap.size) : (grow w g).setCell ⟨n, i, none⟩ v = grow (w.setCell ⟨n, i, none⟩ v) g := by
 simp only [World.setCell,grow];congr 1;apply Array.ext_getElem?;intro k;simp only [Array.getElem?_modify,Array.getElem?_append,Array.size_modify];by_cases e:n=k
 ·subst e;simp [h]
 ·simp [e]
@[simp, go_sem] theorem aaC (w : World) (k : Nat) (g : eo) : grow (w.drewN k) g = grow w g := rfl
@[simp, go_sem] theorem abp (w : World) (g : eo) : grow w.drew g = grow w g := rfl
theorem below_grow (w:World) (g:eo):Below w.heap.size w (grow w g):=
 ⟨rfl,rfl,rfl,by simp,fun k h=>dS w g k h⟩
theorem aA {w w':World} (h:Below w.heap.size w w'):∃g,w'=grow w g:=by
 refine⟨⟨w'.heap.extract w.heap.size w'.heap.size,w'.drawn⟩, ?_⟩;obtain⟨h1,h2,h3,h4,h5⟩:=h;cases w with
 |mk heap tape drawn os output=>
  cases w' with
  |mk heap' tape' aho os' afg=>
   simp only at h1 h2 h3 h4 h5;subst h1 h2 h3;simp only [grow];congr 1;apply Array.ext
   ·simp;omega
   ·intro k h1 h2;simp only [Array.getElem_append,Array.getElem_extract];split
    ·rename_i hk;have:=h5 k hk;rw [Array.getElem?_eq_getElem h1,Array.getElem?_eq_getElem hk] at this;exact Option.some.inj this
    ·congr 1;omega
theorem bA {a w:World} (h:Below a.heap.size a w) (o:Obj):Below a.heap.size a (w.alloc o):=h.alloc h.size o
theorem bG {a w:World} (h:Below a.heap.size a w) (g:eo):Below a.heap.size a (grow w g):=h.trans ((below_grow w g).mono h.size)
theorem bI {a w:World} (h:Below a.heap.size a w) (s:ByteArray) (p:Nat):Below a.heap.size a (w.iter s p):=h.alloc h.size _
theorem bN {a w:World} (h:Below a.heap.size a w) (n:Nat):Below a.heap.size a (w.drewN n):=below_drewN h n
theorem bD {a w:World} (h:Below a.heap.size a w):Below a.heap.size a w.drew:=h.drew
theorem bS {a w:World} (h:Below a.heap.size a w) (n i:Nat) (v:Value) (hn:a.heap.size≤n):Below a.heap.size a (w.setCell ⟨n,i,none⟩ v):=h.setCell hn v
@[go_sem] theorem abq (w : World) (s : ByteArray) (p n i : Nat) (h : n < w.heap.size) : (w.iter s p).cell? ⟨n, i, none⟩ = w.cell? ⟨n, i, none⟩ :=
 World.cell?_alloc_past (w:=w) _ n i h
@[simp, go_sem] theorem abr (w : World) (s : ByteArray) (p : Nat) : (w.iter s p).heap.size = w.heap.size + 1 := by
 simp [World.iter]
theorem T9 {P:Program} (w:World) (r:Nat) (s:ByteArray) (pos c wd:Nat) (ty:TypeId) (hr:w.heap[r]?=some (.stringIter s pos)) (h:pos<s.size) (hd:Utf8.decode s pos=(c,wd)):
  (Instr.next (.pointer (some ⟨r,0,none⟩)) true ty).run P w=.ok (.tuple #[.bool true,.int .i64 pos,.int .i32 c]) {w with heap:=w.heap.setIfInBounds r (.stringIter s (pos+wd))}:=by
 simp [Instr.next,getObj,setObj,Sem.run,hr,h,hd,goInt]
theorem wT (W:World) (s:ByteArray) (p q:Nat) (g:eo):{grow (W.iter s p) g with heap:=(grow (W.iter s p) g).heap.setIfInBounds W.heap.size (.stringIter s q)}=grow (W.iter s q) g:=by
 simp only [grow,World.iter,World.alloc];congr 1;apply Array.ext_getElem?;intro k;simp only [Array.getElem?_setIfInBounds,Array.getElem?_append,Array.getElem?_push,Array.size_push,Array.size_append];by_cases e:W.heap.size=k
 ·subst e;simp;try omega
 ·have e':k≠W.heap.size:=fun h=>e h.symm
  simp [e,e']
theorem Ic {P:Program} (W:World) (s:ByteArray) (pos c wd:Nat) (ty:TypeId) (g:eo) (h:pos<s.size) (hd:Utf8.decode s pos=(c,wd)):
  (Instr.next (.pointer (some ⟨W.heap.size,0,none⟩)) true ty).run P (grow (W.iter s pos) g)=.ok (.tuple #[.bool true,.int .i64 pos,.int .i32 c]) (grow (W.iter s (pos+wd)) g):=by
 rw [T9 _ _ s pos c wd ty (by rw [dS _ _ _ ai];exact World.iter_heap W s pos) h hd,wT]
theorem wN {P:Program} (W:World) (s:ByteArray) (pos:Nat) (ty:TypeId) (g:eo) (h:¬pos<s.size):
  (Instr.next (.pointer (some ⟨W.heap.size,0,none⟩)) true ty).run P (grow (W.iter s pos) g)=.ok (.tuple #[.bool false]) (grow (W.iter s pos) g):=by
 have hr:(grow (W.iter s pos) g).heap[W.heap.size]?=some (.stringIter s pos):=by rw [dS _ _ _ ai];exact World.iter_heap W s pos
 simp [Instr.next,getObj,Sem.run,hr,h]
def eo.app (g h:eo):eo:=⟨g.blocks++h.blocks,h.drawn⟩
theorem grow_grow (w:World) (g h:eo):grow (grow w g) h=grow w (g.app h):=by
 simp [grow,eo.app,Array.append_assoc]
@[simp] theorem ic (W : World) (s : ByteArray) (p n : Nat) (g : eo) (hn : n = W.heap.size) : (grow (W.iter s p) g).iterPos n = p := by
 subst hn;have hr:(grow (W.iter s p) g).heap[W.heap.size]?=some (.stringIter s p):=by rw [dS _ _ _ ai];exact World.iter_heap W s p
 simp [World.iterPos,hr]
theorem cW (w:World):grow w ⟨#[],w.drawn⟩=w:=by
 simp [grow]
end Go.Proofs.YtbgjanmheagilaaGreatDoor