/- A part of the proof. Conditions: none. -/
import Derived.Lib.ItoaLen
import Derived.Test.YtjchnliaglecoaaGreatDoorNodes
set_option linter.unusedVariables false
set_option linter.unusedSimpArgs false
set_option maxRecDepth 100000
set_option maxHeartbeats 8000000
namespace Go.Proofs.YtjchnliaglecoaaGreatDoor
open Go Go.RowKit Go.Nodes
def CP (n:Nat):UInt8:=[48,49,50,51,52,53,54,55,56,57,97,98,99,100,101,102].getD n 48
def qc (c:UInt8):List UInt8:=if c=10 then [92,110] else if c=34∨c=92 then [92,c] else if c<32∨126<c then [92,120,CP (c.toNat / 16),CP (c.toNat % 16)] else [c]
def iL (s:ByteArray):ByteArray:=⟨(34::(s.data.toList.flatMap qc++[34])).toArray⟩
theorem aex (c:UInt8):(qc c).length≤4:=by
 unfold qc;repeat (first|split|simp)
theorem rJ:∀l:List UInt8,(l.flatMap qc).length≤4*l.length
 |[]=>by simp
 |c::l=>by
  have:=rJ l;have h:=aex c;simp only [List.flatMap_cons,List.length_append,List.length_cons];omega
end Go.Proofs.YtjchnliaglecoaaGreatDoor