/- A part of the proof. Conditions: none. -/
import Derived.Deep.Slices
import Derived.Deep.Fields
import Derived.ChangeSame
import Derived.ProofKit
set_option linter.unusedVariables false
set_option linter.unusedSimpArgs false
set_option maxRecDepth 100000
set_option maxHeartbeats 8000000
namespace Go.Nodes
open Go Go.ChangeShapes Go.WideShapes Go.Deep
section
variable {H:Type} {enc:TypeId × Value→H} {P:Program} {w:World} {base:Nat} {spare:Nat→Bool} {held:Bool}
end
structure Nd where
 kind:Int
 text:ByteArray
 kp:Option Addr
 aC:Nat
 kids:List Int
 place:Int
def bR (W:World) (p:Option Addr) (xs:List Int):Prop:=
 xs=[]∨∃b o,p=some ⟨b,o,none⟩∧b<W.heap.size∧∀(i:Nat) (h:i<xs.length),W.cell? ⟨b,o+i,none⟩=some (.int .i64 xs[i])
def i64 (n:Int):Prop:=-9223372036854775808≤n∧n≤9223372036854775807
def Nd.fine (W:World) (x:Nd):Prop:=i64 x.kind∧i64 x.place∧x.text.size≤maxLen∧x.kids.length≤maxLen∧(∀k∈x.kids,i64 k)∧bR W x.kp x.kids
def aj (W:World) (p:Option Addr) (ns:List Nd):Prop:=
 ns.length≤maxLen∧(∀x∈ns,x.fine W)∧(ns=[]∨∃b o,p=some ⟨b,o,none⟩∧b<W.heap.size∧∀(i:Nat) (h:i<ns.length),
  W.cell? ⟨b,o+i*4,none⟩=some (.int .i64 ns[i].kind)∧W.cell? ⟨b,o+i*4+1,none⟩=some (.string ns[i].text)∧
  W.cell? ⟨b,o+i*4+2,none⟩=some (.slice ns[i].kp ns[i].kids.length ns[i].aC)∧W.cell? ⟨b,o+i*4+3,none⟩=some (.int .i64 ns[i].place))
theorem Fb {n:Int} (h:(Lit.int .i64 n).wf=true):i64 n:=by
 simp [Lit.wf,IntKind.min,IntKind.max,IntKind.signed,IntKind.bits] at h;exact⟨by omega,by omega⟩
theorem CR {a:Addr} {b o i:Nat} (ha:a=⟨b,o,none⟩):a.add i=⟨b,o+i,none⟩:=by
 subst ha;unfold Addr.add;split
 ·rename_i h;simp_all
 ·rfl
section
variable {H:Type} {enc:TypeId × Value→H} {P:Program} {W:World}
end
end Go.Nodes