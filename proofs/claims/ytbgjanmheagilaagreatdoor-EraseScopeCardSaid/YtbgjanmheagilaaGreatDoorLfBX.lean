/- A part of the proof. Conditions: none. -/
import Derived.Test.YtbgjanmheagilaaGreatDoorZz
import Derived.Test.YtbgjanmheagilaaGreatDoorAw6
import Derived.Test.YtbgjanmheagilaaGreatDoorBase
set_option linter.unusedVariables false
set_option linter.unusedSimpArgs false
set_option maxRecDepth 100000
set_option maxHeartbeats 8000000
namespace Go.Proofs.YtbgjanmheagilaaGreatDoor
open Go Go.RowKit Go.Am
def allEq (p:Value→Value→Bool):List Value→List Value→Bool
 |[],[]=>true
 |a::l,b::m=>p a b && allEq p l m
 |_,_=>false
def veq:Nat→Value→Value→Bool
 |_,.bool a,.bool b=>a==b
 |_,.int k a,.int l b=>qY k l && decide (a=b)
 |_,.string s,.string t=>decide (s.data.toList=t.data.toList)
 |n+1,.agg a,.agg b=>allEq (veq n) a.toList b.toList
 |n+1,.tuple a,.tuple b=>allEq (veq n) a.toList b.toList
 |_,_,_=>false
theorem uU {p:Value→Value→Bool} (hp:∀a b,p a b=true→a=b):∀l m,allEq p l m=true→l=m
 |[],[],_=>rfl
 |a::l,b::m,h=>by
  simp only [allEq,Bool.and_eq_true] at h;rw [hp a b h.1,uU hp l m h.2]
 |[],_::_,h=>by cases h
 |_::_,[],h=>by cases h
theorem oB {s t:ByteArray} (h:s.data.toList=t.data.toList):s=t:=by
 obtain⟨⟨l⟩⟩:=s;obtain⟨⟨m⟩⟩:=t;simp only at h;subst h;rfl
theorem nD {k l:IntKind} (h:qY k l=true):k=l:=by
 cases k<;>cases l<;>first|rfl|(exact absurd h ay)
theorem Yk:∀n a b,veq n a b=true→a=b:=by
 intro n
 induction n with
 |zero=>
  intro a b h;unfold veq at h;split at h
  ·simp at h;rw [h]
  ·simp only [Bool.and_eq_true,decide_eq_true_eq] at h;rw [nD h.1,h.2]
  ·simp only [decide_eq_true_eq] at h;rw [oB h]
  ·contradiction
  ·contradiction
  ·cases h
 |succ n ih=>
  intro a b h;unfold veq at h;split at h
  ·simp at h;rw [h]
  ·simp only [Bool.and_eq_true,decide_eq_true_eq] at h;rw [nD h.1,h.2]
  ·simp only [decide_eq_true_eq] at h;rw [oB h]
  ·rename_i h2;cases h2;rw [Array.toList_inj.1 (uU ih _ _ h)]
  ·rename_i h2;cases h2;rw [Array.toList_inj.1 (uU ih _ _ h)]
  ·cases h
noncomputable def nH (f:Nat) (args:List Value) (ans:Value):Bool:=Gp Tryz.prog hk6 300 f args.toArray (fun v=>veq 4 v ans) && eu 3 ans && args.all (eu 3)
theorem iN {f:Nat} {args:List Value} {ans:Value} (h:nH f args ans=true) (w:World):Calls Tryz.prog f args.toArray w fun e w'=>e=.returned ans∧Below w.heap.size w w':=by
 simp only [nH,Bool.and_eq_true] at h;obtain⟨⟨h1,h2⟩,h3⟩:=h;refine(sw ak w (Md w) h1 uV).mono fun e w' ⟨v,v',E,g1,g2,g3,g4⟩=>⟨?_,g4⟩
 have:=Yk _ _ _ g1;subst this;rw [g2,ot g3 3 h2]
def letters:List Nat:=[98,66,101,69,84,116,100,102,112,99,115,80,110,104,117,70]
def Me (k:Nat):Bool:=(Nat.ble 13 k && Nat.ble k 22)||Nat.beq k 24||(Nat.ble 27 k && Nat.ble k 30)
def isType (k:Nat):Bool:=Nat.beq k 31||Nat.beq k 32||Nat.beq k 34||Nat.beq k 35
def iX (k c:Nat):Bool:=
 bif Nat.beq c 98 then Nat.beq k 3 else bif Nat.beq c 66 then Nat.beq k 3||Nat.beq k 12 else bif Nat.beq c 101 then Me k else bif Nat.beq c 69 then Me k||Nat.beq k 12
 else bif Nat.beq c 84 then isType k else bif Nat.beq c 116 then isType k||Nat.beq k 12 else bif Nat.beq c 100 then isType k||Nat.beq k 12||Nat.beq k 36
 else bif Nat.beq c 102 then Nat.beq k 22 else bif Nat.beq c 112 then Nat.beq k 17||Nat.beq k 18||Nat.beq k 19 else bif Nat.beq c 99 then Nat.beq k 20||Nat.beq k 21
 else bif Nat.beq c 115 then Nat.ble 4 k && Nat.ble k 11 else bif Nat.beq c 80 then Nat.beq k 23 else bif Nat.beq c 110 then Nat.beq k 25||Nat.beq k 26 else bif Nat.beq c 104 then Nat.beq k 2
 else bif Nat.beq c 117 then Nat.beq k 31||Nat.beq k 32 else Nat.beq k 33
def EF (k:Nat):List UInt8:=
 bif Nat.beq k 3 then [98,66] else bif Nat.beq k 12 then [66,69,116,100] else bif Nat.beq k 22 then [101,69,102] else bif Nat.beq k 17||Nat.beq k 18||Nat.beq k 19 then [101,69,112]
 else bif Nat.beq k 20||Nat.beq k 21 then [101,69,99] else bif (Nat.ble 13 k && Nat.ble k 16)||Nat.beq k 24||(Nat.ble 27 k && Nat.ble k 30) then [101,69] else bif Nat.beq k 31||Nat.beq k 32 then [84,116,100,117]
 else bif Nat.beq k 34||Nat.beq k 35 then [84,116,100] else bif Nat.ble 4 k && Nat.ble k 11 then [115] else bif Nat.beq k 36 then [100] else bif Nat.beq k 23 then [80] else bif Nat.beq k 25||Nat.beq k 26 then [110]
 else bif Nat.beq k 2 then [104] else bif Nat.beq k 33 then [70] else []
theorem ID:((List.range 37).all fun k=>nH 156 [.int .i64 k] (.string ⟨(EF k).toArray⟩))=true:=by kernel_rfl
def kI:List (List UInt8):=[[],[104,42,98],[46],[115,42],[100,69],[102],[112,101],[99],[101,98,66],[101,98],[69],[46],[46],[46],[46],[46],[46],[46],[101],[101,101],[101,101,42],[101,42],[80,42,116,98],[100],[110,42],[101],[101],[101,101],[101],[101,101],[101,101],[46],[70,42],[84],[84,42,84],[117,117,117,42],[84]]
noncomputable def uW:Value:=.agg (kI.map fun l=>Value.string ⟨l.toArray⟩).toArray
theorem IE:nH 54 [] uW=true:=by kernel_rfl
def cj (k:Nat):List UInt8 × List UInt8 × List UInt8 × Bool:=
 match kI[k]? with
 |none=>([],[],[],false)
 |some l=>bif Nat.beq k 0 then([],[],[],false) else match l with
  |[46]=>([],[],[],true)
  |[a,42]=>([],[a],[],true)
  |[a,42,b]=>([],[a],[b],true)
  |[a,42,b,c]=>([],[a],[b,c],true)
  |[a,b,42]=>([a],[b],[],true)
  |[a,b,c,42]=>([a,b],[c],[],true)
  |l=>(l,[],[],true)
def str (l:List UInt8):Value:=.string ⟨l.toArray⟩
noncomputable def EG (k:Nat):Value:=.tuple #[str (cj k).1,str (cj k).2.1,str (cj k).2.2.1,.bool (cj k).2.2.2]
theorem IG:((List.range 37).all fun k=>nH 68 [.int .i64 k] (EG k))=true:=by kernel_rfl
end Go.Proofs.YtbgjanmheagilaaGreatDoor
/- A part of the proof. Conditions: none. -/
set_option maxRecDepth 100000
set_option maxHeartbeats 8000000
namespace Go.Proofs.YtbgjanmheagilaaGreatDoor
open Go Go.RowKit Go.Am
def gw (c:Nat):Bool:=Nat.ble 48 c && Nat.ble c 57
def jb (c:Nat):Bool:=Nat.beq c 95||(Nat.ble 97 c && Nat.ble c 122)||(Nat.ble 65 c && Nat.ble c 90)
def dD (c:Nat):Bool:=jb c||gw c
def dO (c:Nat):Nat:=bif Nat.ble 48 c && Nat.ble c 57 then c - 48 else bif Nat.ble 97 c && Nat.ble c 102 then c - 87 else bif Nat.ble 65 c && Nat.ble c 70 then c - 55 else 16
theorem JV:((List.range 256).all fun c=>nH 159 [.int .u8 c] (.bool (dD c)))=true:=by kernel_rfl
theorem DD:((List.range 256).all fun c=>nH 157 [.int .u8 c] (.bool (gw c)))=true:=by kernel_rfl
theorem DF:((List.range 256).all fun c=>nH 101 [.int .u8 c] (.bool (jb c)))=true:=by kernel_rfl
theorem GZ:((List.range 256).all fun c=>nH 103 [.int .u8 c] (.bool (dD c)))=true:=by kernel_rfl
theorem DG:((List.range 256).all fun c=>nH 104 [.int .u8 c] (.int .i64 (dO c)))=true:=by kernel_rfl
end Go.Proofs.YtbgjanmheagilaaGreatDoor