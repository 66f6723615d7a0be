/- The abstract evaluator: it runs. Conditions: none. -/
import Derived.Test.YtbgjanmheagilaaDoorAmK
namespace Go.Am
open Go Go.RowKit
set_option linter.unusedVariables false
set_option linter.unusedSimpArgs false
noncomputable section
variable {μ : Type} {I : MemI μ} {P : Program} {lo : Lim} {w0 : Bs} {E : Env}

def thenA (k : AAct → M I (AExit × AAct)) (r : AExit × AAct) : M I (AExit × AAct) := match r with
  | (.normal, a1) => k a1
  | r => pure r
def inBlockA (id : Nat) (r : AExit × AAct) : M I (AExit × AAct) := match r with
  | (.exit j, a1) => bif Nat.beq j id then pure (.normal, a1) else pure (.exit j, a1)
  | r => pure r
def condA (lo : Lim) (self : Self I) (c : Operand) (x y : Code) (a : AAct) : M I (AExit × AAct) := match evA lo a c with
  | some (.bool b) => bif b then self.code x a else self.code y a
  | _ => fail
def codeStep (P : Program) (X : Hk) (lo : Lim) (self : Self I) : Code → AAct → M I (AExit × AAct)
  | .skip, a => pure (.normal, a)
  | .label _, a => pure (.normal, a)
  | .seq x y, a => self.code x a >>= thenA (self.code y)
  | .cond c x y, a => condA lo self c x y a
  | .block id b, a => self.code b a >>= inBlockA id
  | .loop b, a => loopA self b 1000000 a
  | .scope b, a => self.code b a
  | .exit id, a => pure (.exit id, a)
  | .ret, a => pure (.ret, a)
  | .region _ ops false, a => opsSeq P X lo self ops ops.toList a
  | .region _ ops true, a => drawL P X lo self ops a
  | _, _ => fail

def resL (P : Program) (a : AAct) : List ResultVar → M I (List Value)
  | [] => pure []
  | .tmp t :: l => resL P a l >>= fun vs => pure (a.val t :: vs)
  | .cell x t :: l => loadA P t (a.val x) >>= fun v => resL P a l >>= fun vs => pure (v :: vs)
def resA (P : Program) (fn : Func) (a : AAct) : M I Value := resL P a fn.results.toList >>= fun vs => match vs with
  | [v] => pure v
  | vs => pure (.tuple vs.toArray)

def fillT : List Value → Nat → Trie Value → Trie Value
  | [], _, t => t
  | v :: l, i, t => fillT l (i + 1) (t.set 12 i (some v))

def leaveA (P : Program) (fn : Func) (a : AAct) : M I AEnd := match a.defers with
  | [] => resA P fn a >>= fun v => pure (.ret v)
  | _ => fail
def leaveP (a : AAct) (v : Value) : M I AEnd := match a.defers with
  | [] => pure (.panic v)
  | _ => fail
def bodyA (P : Program) (fn : Func) (r : AExit × AAct) : M I AEnd := match r.1 with
  | .normal => leaveA P fn r.2
  | .ret => leaveA P fn r.2
  | .panic v => leaveP r.2 v
  | _ => fail
def enterA (P : Program) (self : Self I) (args : Array Value) (fn : Func) : M I AEnd := match fn.body with
  | some c => bif Nat.blt args.size 4000 then self.code c ⟨args.size + (fn.ntmps - args.size), fillT args.toList 0 .leaf, []⟩ >>= bodyA P fn else fail
  | none => fail
/-- Calls that are known by a contract: what they do to the abstract memory. -/
abbrev Hook (I : MemI μ) := Option (FuncId → Array Value → Option (M I AEnd))
def bodyStep (P : Program) (X : Hk) (self : Self I) (f : FuncId) (args : Array Value) : M I AEnd := match X.L f args.toList with
  | some v => pure (.ret v)
  | none => match P.funcs[f]? with
    | some fn => enterA P self args fn
    | none => fail
def callStep (P : Program) (X : Hk) (K : Hook I) (self : Self I) (f : FuncId) (args : Array Value) : M I AEnd := match K with
  | none => bodyStep P X self f args
  | some h => match h f args with
    | some m => m
    | none => bodyStep P X self f args

def evalN (P : Program) (X : Hk) (lo : Lim) (K : Hook I) : Nat → Self I
  | 0 => ⟨fun _ _ => fail, fun _ _ => fail⟩
  | n + 1 => ⟨codeStep P X lo (evalN P X lo K n), callStep P X K (evalN P X lo K n)⟩

/-- The empty memory. -/
def st0 (n : Nat) : St (Trie Obj) := ⟨n, .leaf, 0, 0⟩
def runs (P : Program) (X : Hk) (n : Nat) (f : FuncId) (args : Array Value) (p : Value → Bool) : Bool := match ((evalN (I := trieI) P X ⟨0, 0⟩ none n).call f args).run (st0 0) with
  | some (.ret v, _) => p v
  | _ => false
end
end Go.Am
