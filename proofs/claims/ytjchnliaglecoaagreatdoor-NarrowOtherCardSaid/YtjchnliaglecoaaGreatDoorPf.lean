/- A part of the proof. Conditions: none. -/
import Derived.Test.YtjchnliaglecoaaGreatDoorZz
import Derived.Test.YtjchnliaglecoaaGreatDoorPkX
set_option linter.unusedVariables false
set_option linter.unusedSimpArgs false
set_option maxRecDepth 100000
set_option maxHeartbeats 8000000
namespace Go.Proofs.YtjchnliaglecoaaGreatDoor
open Go Go.RowKit Go.Nodes Go.Am
theorem Qf:((List.range 37).all fun k=>mX 33 [.int .i64 k] (.bool (ld k)))=true:=by kernel_rfl
theorem agA (k:Nat) (hk:k<37) (w:World):Calls Tryz.prog 33 #[.int .i64 (k:Int)] w fun e w'=>e=.returned (.bool (ld k))∧Below w.heap.size w w':=uR Qf k hk w
theorem M8:((List.range 37).all fun k=>mX 30 [.int .i64 k] (.bool (ld k)))=true:=by kernel_rfl
theorem agB (k:Nat) (hk:k<37) (w:World):Calls Tryz.prog 30 #[.int .i64 (k:Int)] w fun e w'=>e=.returned (.bool (ld k))∧Below w.heap.size w w':=uR M8 k hk w
noncomputable def tL (ns:List Nd) (s:Fs):Bool:=decide ((cy ns).2.2=0) && Fc s (cy ns).1
theorem Ff {ns:List Nd} (he:(bg ns).2=0):(cB ns).vars.length≤ns.length∧(cB ns).funcs.length≤ns.length+1:=by
 have Qg:=trivial;exact acU
theorem Jl {w:World} {B:Nat} {ns:List Nd} {v0 v1 v2 v3:Value} (hS:Small ns) (h:gR B w (cy ns).1 v0 v1 v2 v3):nc w v0 v1 v2 v3 (cy ns).1:=by
 refine gR.sc h ?_;have hz:(0:Nat)≤maxLen:=Nat.zero_le _;unfold cy;split
 ·exact⟨hz,hz,hz,hz⟩
 ·rename_i he;split
  ·exact⟨hz,hz,hz,hz⟩
  ·have Li:(bg ns).2=0:=by omega
   have hi:=(E9 Li).1;have hf:=Ff Li;have h5:=hS.1;have h1:=hi.uses;have h2:=hi.cF;have hm:6000≤maxLen:=lf;simp only;exact⟨by omega,by omega,by omega,by omega⟩
theorem q8 {W W1 w9:World} {a b c d:Value} (h:W1=W.alloc (.cells #[a,b,c,d] 28)) (hb:Below W1.heap.size W1 w9):
  w9.cell? ⟨W.heap.size,0,none⟩=some a∧w9.cell? ⟨W.heap.size,1,none⟩=some b∧w9.cell? ⟨W.heap.size,2,none⟩=some c∧w9.cell? ⟨W.heap.size,3,none⟩=some d:=by
 have hk:w9.heap[W.heap.size]?=some (.cells #[a,b,c,d] 28 (0,0)):=by
  rw [hb.block _ (by rw [h];simp),h];exact heap_alloc_new _ _
 refine⟨?_, ?_, ?_, ?_⟩<;>simp [World.cell?,hk]
theorem agC (W:World) (p:Option Addr) (c:Nat) (ns:List Nd) (hS:Small ns) (hc:gS ns) (ha:ay W p ns) (hl0:bZ W) (v0 v1 v2 v3:Value) (s:Fs) (hs:nc W v0 v1 v2 v3 s):
  Calls Tryz.prog 32 #[.slice p ns.length c,.agg #[v0,v1,v2,v3]] W fun e w'=>e=.returned (.bool (tL ns s))∧Below W.heap.size W w':=by
 have XU:=trivial;exact agD
theorem C2 {ns:List Nd} {s:Fs} (hS:Small ns) (h:tL ns s=true):(bg ns).2=0∧Fit ns s:=by
 unfold tL Fc at h;simp only [Bool.and_eq_true,decide_eq_true_eq] at h;obtain⟨h0,⟨⟨h1,h2⟩,h3⟩,h4⟩:=h;have h1:=Jf h1;have h2:=Jf h2;have he:(bg ns).2=0:=by
  unfold cy at h0;by_cases he:(bg ns).2=0
  ·exact he
  ·rw [if_pos he] at h0;exact h0
 refine⟨he, ?_⟩;have ho:(cy ns).1=cB ns:=by
  unfold cy at h0 ⊢;rw [if_neg ni] at h0 ⊢;by_cases h5:(cB ns).e=0
  ·rw [if_neg nj]
  ·rw [if_pos h5] at h0;exact absurd h0 h5
 rw [ho] at h1 h2;have hi:=E9 he;have hf:=Ff he;have h5:=hS.1;exact⟨by rw [h2];exact hi.1.uses,fun u hu=>by rw [h1];rw [h2] at hu;exact hi.2 u hu,h5,by rw [h1];omega⟩
noncomputable def mH (ns:List Nd) (s:Fs) (n:Int) (yes:Bool):List (Int × Int):=if tL ns s=true∧0≤n∧n<ns.length∧ld (aq ns n).toNat=true then aW ns s.vars s.uses ns.length n yes else []
theorem Lj (W:World) (p:Option Addr) (c:Nat) (ns:List Nd) (hS:Small ns) (hc:gS ns) (ha:ay W p ns) (hl0:bZ W) (v0 v1 v2 v3:Value) (s:Fs) (hs:nc W v0 v1 v2 v3 s) (n:Int) (yes:Bool):
  Calls Tryz.prog 13 #[.slice p ns.length c,.agg #[v0,v1,v2,v3],.int .i64 n,.bool yes] W (fM W (mH ns s n yes)):=by
 have XV:=trivial;exact agD
end Go.Proofs.YtjchnliaglecoaaGreatDoor
