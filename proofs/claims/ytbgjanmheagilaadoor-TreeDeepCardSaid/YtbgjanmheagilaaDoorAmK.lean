/- The abstract evaluator: a region that draws its order. Conditions: none. -/
import Derived.Test.YtbgjanmheagilaaDoorAmJ
namespace Go.Am
open Go Go.RowKit
set_option linter.unusedVariables false
set_option linter.unusedSimpArgs false
noncomputable section
variable {μ : Type} {I : MemI μ} {P : Program} {lo : Lim} {w0 : Bs} {E : Env}

/-- A run with marks of its own. -/
def alone {α : Type} (m : M I α) : M I (α × Nat × Nat) := ⟨fun s => match m.run ⟨s.next, s.mem, 0, 0⟩ with
    | none => none
    | some (a, s') => some ((a, s'.T, s'.W), ⟨s'.next, s'.mem, s.T ||| s'.T, s.W ||| s'.W⟩), fun s a s' h => by
  cases e : m.run ⟨s.next, s.mem, 0, 0⟩ with
  | none => rw [e] at h; cases h
  | some x =>
    obtain ⟨b, s1⟩ := x
    rw [e] at h; cases h
    have hl := m.le _ _ _ e
    refine ⟨hl.next, fun k hk => by simp [Nat.testBit_or, hk], fun k hk => by simp [Nat.testBit_or, hk], fun k hk => ?_⟩
    simp [Nat.testBit_or] at hk
    exact hl.mem k hk.2⟩
theorem alone_run {α : Type} {m : M I α} {s s' : St μ} {a : α} {T W : Nat} (h : (alone m).run s = some ((a, T, W), s')) :
    m.run ⟨s.next, s.mem, 0, 0⟩ = some (a, ⟨s'.next, s'.mem, T, W⟩) ∧ s'.T = s.T ||| T ∧ s'.W = s.W ||| W := by
  simp only [alone] at h
  cases e : m.run ⟨s.next, s.mem, 0, 0⟩ with
  | none => rw [e] at h; cases h
  | some x =>
    obtain ⟨b, s1⟩ := x
    rw [e] at h; cases h
    exact ⟨rfl, rfl, rfl⟩

/-- The slots that an operation looks at, and no others. -/
def evO (lo : Lim) (ops : Array Oper) (o : Oper) (a : AAct) : Ev
  | .tmp t => bif (o.looksAt ops).contains t then some (a.val t) else none
  | x => evA lo a x

def endV (e : AEnd) : M I Value := match e with
  | .ret v => pure v
  | .panic _ => fail
def resV (self : Self I) (r : OpRes) : M I Value := match r with
  | .val v => pure v
  | .call f args => self.call f args >>= endV
  | _ => fail
/-- One operation of the region, walked to its value. -/
def oneD (P : Program) (X : Hk) (lo : Lim) (self : Self I) (ops : Array Oper) (o : Oper) (a : AAct) : M I Value :=
  bif wantedA ops a o then stepOp P X lo (evO lo ops o a) o >>= resV self else pure undef

/-- What one operation of the region has done. -/
structure Mk where
  T : Nat
  W : Nat

/-- The text's order, with the marks of each. -/
def runD (P : Program) (X : Hk) (lo : Lim) (self : Self I) (ops : Array Oper) : List Oper → AAct → M I (AAct × List Mk)
  | [], a => pure (a, [])
  | o :: rest, a => alone (oneD P X lo self ops o a) >>= fun r => putA' a o.dst r.1 >>= fun a' => runD P X lo self ops rest a' >>= fun q => pure (q.1, ⟨r.2.1, r.2.2⟩ :: q.2)

/-- Two operations do not touch each other. -/
def apartM (ops : Array Oper) (o p : Oper) (x y : Mk) : Bool := o.apart ops p && Nat.beq (x.W &&& (y.T ||| y.W)) 0 && Nat.beq (x.T &&& y.W) 0
/-- What stands ahead of each operation, as bits. -/
def maskOf (acc : List Nat) : List Edge → Nat
  | [] => 0
  | e :: l => bif Region.binds .any e then (maskOf acc l ||| 1 <<< e.on) ||| acc.getD e.on 0 else maskOf acc l
def masks : List Oper → List Nat → List Nat
  | [], acc => acc
  | o :: l, acc => masks l (acc ++ [maskOf acc o.after.toList])
/-- i < j: the one is ahead of the other, or they are apart. -/
def checkD (ops : Array Oper) (bef : List Nat) (ms : List Mk) : Bool :=
  (ms.zipIdx.all fun (y, j) => ms.zipIdx.all fun (x, i) => !Nat.blt i j || (bef.getD j 0).testBit i || match ops[i]?, ops[j]? with
    | some o, some p => apartM ops o p x y
    | _, _ => false) && ops.toList.zipIdx.all fun (o, i) => o.after.all fun e => !Region.binds .any e || Nat.blt e.on i
def drawA (P : Program) (X : Hk) (lo : Lim) (self : Self I) (ops : Array Oper) (a : AAct) : M I (AExit × AAct) :=
  runD P X lo self ops ops.toList a >>= fun q => bif checkD ops (masks ops.toList []) q.2 then pure (.normal, q.1) else fail
/-- Edges and guard look back. -/
def backOK (n i : Nat) (o : Oper) : Bool := (o.after.all fun e => !Region.binds .any e || Nat.blt e.on i) && match o.guard with
  | some (j, _) => Nat.blt j n
  | none => true
/-- The last one, where it stands behind all the others. -/
def lastP (ops : Array Oper) : Option Oper := match ops.back? with
  | some p => bif (ops.toList.zipIdx.all fun (o, i) => backOK ops.pop.size i o) && ((List.range ops.pop.size).all fun i => ((masks ops.toList []).getD ops.pop.size 0).testBit i) then some p else none
  | none => none
def thenL (k : AAct → M I (AExit × AAct)) (r : AExit × AAct) : M I (AExit × AAct) := match r with
  | (.normal, a1) => k a1
  | r => pure r
def drawL (P : Program) (X : Hk) (lo : Lim) (self : Self I) (ops : Array Oper) (a : AAct) : M I (AExit × AAct) := match lastP ops with
  | some p => drawA P X lo self ops.pop a >>= thenL (opsSeq P X lo self ops [p])
  | none => drawA P X lo self ops a
end
end Go.Am
