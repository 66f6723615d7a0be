/-
  NARROWER THAN 'FOR EVERY INPUT', by the rows' own cells (each row's printed sentence says how): FlowNext: loops · FlowPosts: loops · FlowOne: loops · FlowMeets: loops · FlowReach: loops · FlowWrites: loops.
  DERIVED. THE GIVEN ROWS OF THIS SEAT. 10 by the template 'for every input the law returns true; each argument reads behind the call as it read before'; 0 by the template 'total and deterministic' (their statements: YtjocifamacpamaaTotals.lean).
  GIVEN WITH THE SEED: the statements are not yours to turn. If you find one false, say at which input.
  Laid BY PROGRAM, IN A SANDBOX (cutbox-rows.mjs): the forced cells as the released guide's own fill.sh prints them over the translation 2efd9c0a7a16f0b7… (all of the seat's roots in one cut). By AI agents, Wed Nov 11 2026. No macro, syntax, notation, axiom, sorry.
-/
import Derived.Test.YtjocifamacpamaaChecked
import GoSem.Claim
import GoSem.ClaimJoined
import GoSem.ClaimMapViews
import Derived.JoinedTies
import Derived.KernelRfl
namespace Go.Proofs.Ytjocifamacpamaa
/- THE CELL 'sum', in the pinned program and in every row, IS THE sha256 OF THE DUMP (.gsa) THAT YtjocifamacpamaaProg.lean LOADS. Nothing in Lean hashes anything: it is a label: what it is worth is what the hold of that sum in a sandbox is worth. -/
noncomputable def Try.pinned : Pinned := { name := "ytjocifamacpamaa", sum := "2efd9c0a7a16f0b75096b98caa2a0d08f91d5ab01623c19ca7a88fcaf9378a83", checked := Try.checked }
namespace Rows
def none {H : Type} : Left H := { results := [], args := [] }

/-- 'ravelinlaw15.InstrWrites': WHATEVER THE INPUT: true; the input reads as it did. -/
def instrWritesSpec : ChangeSpec := { name := "instrWrites", fn := fun _ => fun
  | [d] => { results := [.lit (.bool true)], args := [d] }
  | _ => none }
def instrWritesRow : OpenClaim := { program := "ytjocifamacpamaa", sum := "2efd9c0a7a16f0b75096b98caa2a0d08f91d5ab01623c19ca7a88fcaf9378a83", func := "ravelin/ravelinlaw15.InstrWrites", spec := "instrWrites", inPlace := ["internal/bytealg.IndexByteString", "internal/bytealg.IndexString"], named := ["internal/bytealg.MaxLen"], apart := false }
def InstrWritesSaid : Prop := instrWritesRow.holds Try.pinned (OpenSpec.ofChange instrWritesSpec)

/-- ITS FALSE NEIGHBOUR: 'it returns false'. Refute it at one input. -/
def instrWritesWrong : ChangeSpec := { name := "instrWrites", fn := fun _ => fun
  | [d] => { results := [.lit (.bool false)], args := [d] }
  | _ => none }
def InstrWritesWrongFalsely : Prop := instrWritesRow.holds Try.pinned (OpenSpec.ofChange instrWritesWrong)

/-- 'ravelinlaw15.InstrForms': WHATEVER THE INPUT: true; the input reads as it did. -/
def instrFormsSpec : ChangeSpec := { name := "instrForms", fn := fun _ => fun
  | [d] => { results := [.lit (.bool true)], args := [d] }
  | _ => none }
def instrFormsRow : OpenClaim := { program := "ytjocifamacpamaa", sum := "2efd9c0a7a16f0b75096b98caa2a0d08f91d5ab01623c19ca7a88fcaf9378a83", func := "ravelin/ravelinlaw15.InstrForms", spec := "instrForms", inPlace := ["internal/bytealg.IndexByteString", "internal/bytealg.IndexString"], named := ["internal/bytealg.MaxLen"], apart := false }
def InstrFormsSaid : Prop := instrFormsRow.holds Try.pinned (OpenSpec.ofChange instrFormsSpec)

/-- ITS FALSE NEIGHBOUR: 'it returns false'. Refute it at one input. -/
def instrFormsWrong : ChangeSpec := { name := "instrForms", fn := fun _ => fun
  | [d] => { results := [.lit (.bool false)], args := [d] }
  | _ => none }
def InstrFormsWrongFalsely : Prop := instrFormsRow.holds Try.pinned (OpenSpec.ofChange instrFormsWrong)

/-- 'ravelinlaw15.InstrReads': WHATEVER THE INPUT: true; the input reads as it did. -/
def instrReadsSpec : ChangeSpec := { name := "instrReads", fn := fun _ => fun
  | [d] => { results := [.lit (.bool true)], args := [d] }
  | _ => none }
def instrReadsRow : OpenClaim := { program := "ytjocifamacpamaa", sum := "2efd9c0a7a16f0b75096b98caa2a0d08f91d5ab01623c19ca7a88fcaf9378a83", func := "ravelin/ravelinlaw15.InstrReads", spec := "instrReads", inPlace := ["internal/bytealg.IndexByteString", "internal/bytealg.IndexString"], named := ["internal/bytealg.MaxLen"], apart := false }
def InstrReadsSaid : Prop := instrReadsRow.holds Try.pinned (OpenSpec.ofChange instrReadsSpec)

/-- ITS FALSE NEIGHBOUR: 'it returns false'. Refute it at one input. -/
def instrReadsWrong : ChangeSpec := { name := "instrReads", fn := fun _ => fun
  | [d] => { results := [.lit (.bool false)], args := [d] }
  | _ => none }
def InstrReadsWrongFalsely : Prop := instrReadsRow.holds Try.pinned (OpenSpec.ofChange instrReadsWrong)

/-- 'ravelinlaw15.InstrBack': WHATEVER THE INPUT: true; the input reads as it did. -/
def instrBackSpec : ChangeSpec := { name := "instrBack", fn := fun _ => fun
  | [d1, d2] => { results := [.lit (.bool true)], args := [d1, d2] }
  | _ => none }
def instrBackRow : OpenClaim := { program := "ytjocifamacpamaa", sum := "2efd9c0a7a16f0b75096b98caa2a0d08f91d5ab01623c19ca7a88fcaf9378a83", func := "ravelin/ravelinlaw15.InstrBack", spec := "instrBack", inPlace := ["internal/bytealg.IndexByteString", "internal/bytealg.IndexString"], named := ["internal/bytealg.MaxLen"], apart := false }
def InstrBackSaid : Prop := instrBackRow.holds Try.pinned (OpenSpec.ofChange instrBackSpec)

/-- ITS FALSE NEIGHBOUR: 'it returns false'. Refute it at one input. -/
def instrBackWrong : ChangeSpec := { name := "instrBack", fn := fun _ => fun
  | [d1, d2] => { results := [.lit (.bool false)], args := [d1, d2] }
  | _ => none }
def InstrBackWrongFalsely : Prop := instrBackRow.holds Try.pinned (OpenSpec.ofChange instrBackWrong)

/-- 'ravelinlaw18.FlowNext': WHATEVER THE INPUT: true; the input reads as it did. -/
def flowNextSpec : ChangeSpec := { name := "flowNext", fn := fun _ => fun
  | [d1, d2] => { results := [.lit (.bool true)], args := [d1, d2] }
  | _ => none }
def flowNextRow : OpenClaim := { program := "ytjocifamacpamaa", sum := "2efd9c0a7a16f0b75096b98caa2a0d08f91d5ab01623c19ca7a88fcaf9378a83", func := "ravelin/ravelinlaw18.FlowNext", spec := "flowNext", inPlace := ["internal/bytealg.IndexByteString", "internal/bytealg.IndexString"], recurses := true, named := ["internal/bytealg.MaxLen"], loops := true, apart := false }
def FlowNextSaid : Prop := flowNextRow.holds Try.pinned (OpenSpec.ofChange flowNextSpec)

/-- ITS FALSE NEIGHBOUR: 'it returns false'. Refute it at one input. -/
def flowNextWrong : ChangeSpec := { name := "flowNext", fn := fun _ => fun
  | [d1, d2] => { results := [.lit (.bool false)], args := [d1, d2] }
  | _ => none }
def FlowNextWrongFalsely : Prop := flowNextRow.holds Try.pinned (OpenSpec.ofChange flowNextWrong)

/-- 'ravelinlaw18.FlowPosts': WHATEVER THE INPUT: true; the input reads as it did. -/
def flowPostsSpec : ChangeSpec := { name := "flowPosts", fn := fun _ => fun
  | [d] => { results := [.lit (.bool true)], args := [d] }
  | _ => none }
def flowPostsRow : OpenClaim := { program := "ytjocifamacpamaa", sum := "2efd9c0a7a16f0b75096b98caa2a0d08f91d5ab01623c19ca7a88fcaf9378a83", func := "ravelin/ravelinlaw18.FlowPosts", spec := "flowPosts", inPlace := ["internal/bytealg.IndexByteString", "internal/bytealg.IndexString"], recurses := true, named := ["internal/bytealg.MaxLen"], loops := true, apart := false }
def FlowPostsSaid : Prop := flowPostsRow.holds Try.pinned (OpenSpec.ofChange flowPostsSpec)

/-- ITS FALSE NEIGHBOUR: 'it returns false'. Refute it at one input. -/
def flowPostsWrong : ChangeSpec := { name := "flowPosts", fn := fun _ => fun
  | [d] => { results := [.lit (.bool false)], args := [d] }
  | _ => none }
def FlowPostsWrongFalsely : Prop := flowPostsRow.holds Try.pinned (OpenSpec.ofChange flowPostsWrong)

/-- 'ravelinlaw18.FlowOne': WHATEVER THE INPUT: true; the input reads as it did. -/
def flowOneSpec : ChangeSpec := { name := "flowOne", fn := fun _ => fun
  | [d1, d2] => { results := [.lit (.bool true)], args := [d1, d2] }
  | _ => none }
def flowOneRow : OpenClaim := { program := "ytjocifamacpamaa", sum := "2efd9c0a7a16f0b75096b98caa2a0d08f91d5ab01623c19ca7a88fcaf9378a83", func := "ravelin/ravelinlaw18.FlowOne", spec := "flowOne", inPlace := ["internal/bytealg.IndexByteString", "internal/bytealg.IndexString"], recurses := true, named := ["internal/bytealg.MaxLen"], loops := true, apart := false }
def FlowOneSaid : Prop := flowOneRow.holds Try.pinned (OpenSpec.ofChange flowOneSpec)

/-- ITS FALSE NEIGHBOUR: 'it returns false'. Refute it at one input. -/
def flowOneWrong : ChangeSpec := { name := "flowOne", fn := fun _ => fun
  | [d1, d2] => { results := [.lit (.bool false)], args := [d1, d2] }
  | _ => none }
def FlowOneWrongFalsely : Prop := flowOneRow.holds Try.pinned (OpenSpec.ofChange flowOneWrong)

/-- 'ravelinlaw18.FlowMeets': WHATEVER THE INPUT: true; the input reads as it did. -/
def flowMeetsSpec : ChangeSpec := { name := "flowMeets", fn := fun _ => fun
  | [d1, d2] => { results := [.lit (.bool true)], args := [d1, d2] }
  | _ => none }
def flowMeetsRow : OpenClaim := { program := "ytjocifamacpamaa", sum := "2efd9c0a7a16f0b75096b98caa2a0d08f91d5ab01623c19ca7a88fcaf9378a83", func := "ravelin/ravelinlaw18.FlowMeets", spec := "flowMeets", inPlace := ["internal/bytealg.IndexByteString", "internal/bytealg.IndexString"], recurses := true, named := ["internal/bytealg.MaxLen"], loops := true, apart := false }
def FlowMeetsSaid : Prop := flowMeetsRow.holds Try.pinned (OpenSpec.ofChange flowMeetsSpec)

/-- ITS FALSE NEIGHBOUR: 'it returns false'. Refute it at one input. -/
def flowMeetsWrong : ChangeSpec := { name := "flowMeets", fn := fun _ => fun
  | [d1, d2] => { results := [.lit (.bool false)], args := [d1, d2] }
  | _ => none }
def FlowMeetsWrongFalsely : Prop := flowMeetsRow.holds Try.pinned (OpenSpec.ofChange flowMeetsWrong)

/-- 'ravelinlaw18.FlowReach': WHATEVER THE INPUT: true; the input reads as it did. -/
def flowReachSpec : ChangeSpec := { name := "flowReach", fn := fun _ => fun
  | [d] => { results := [.lit (.bool true)], args := [d] }
  | _ => none }
def flowReachRow : OpenClaim := { program := "ytjocifamacpamaa", sum := "2efd9c0a7a16f0b75096b98caa2a0d08f91d5ab01623c19ca7a88fcaf9378a83", func := "ravelin/ravelinlaw18.FlowReach", spec := "flowReach", inPlace := ["internal/bytealg.IndexByteString", "internal/bytealg.IndexString"], recurses := true, named := ["internal/bytealg.MaxLen"], loops := true, apart := false }
def FlowReachSaid : Prop := flowReachRow.holds Try.pinned (OpenSpec.ofChange flowReachSpec)

/-- ITS FALSE NEIGHBOUR: 'it returns false'. Refute it at one input. -/
def flowReachWrong : ChangeSpec := { name := "flowReach", fn := fun _ => fun
  | [d] => { results := [.lit (.bool false)], args := [d] }
  | _ => none }
def FlowReachWrongFalsely : Prop := flowReachRow.holds Try.pinned (OpenSpec.ofChange flowReachWrong)

/-- 'ravelinlaw18.FlowWrites': WHATEVER THE INPUT: true; the input reads as it did. -/
def flowWritesSpec : ChangeSpec := { name := "flowWrites", fn := fun _ => fun
  | [d1, d2] => { results := [.lit (.bool true)], args := [d1, d2] }
  | _ => none }
def flowWritesRow : OpenClaim := { program := "ytjocifamacpamaa", sum := "2efd9c0a7a16f0b75096b98caa2a0d08f91d5ab01623c19ca7a88fcaf9378a83", func := "ravelin/ravelinlaw18.FlowWrites", spec := "flowWrites", inPlace := ["internal/bytealg.IndexByteString", "internal/bytealg.IndexString"], recurses := true, named := ["internal/bytealg.MaxLen"], loops := true, apart := false }
def FlowWritesSaid : Prop := flowWritesRow.holds Try.pinned (OpenSpec.ofChange flowWritesSpec)

/-- ITS FALSE NEIGHBOUR: 'it returns false'. Refute it at one input. -/
def flowWritesWrong : ChangeSpec := { name := "flowWrites", fn := fun _ => fun
  | [d1, d2] => { results := [.lit (.bool false)], args := [d1, d2] }
  | _ => none }
def FlowWritesWrongFalsely : Prop := flowWritesRow.holds Try.pinned (OpenSpec.ofChange flowWritesWrong)

/- THE SECOND FORM. 'bulk': how many values and letters a reading holds, each counted each time it is reached (what is shared counts as often as it is met; a slice's spare places count too). A statement '..UptoSaid' is the law's where the arguments, and the package variables that the reading takes, are together of bulk at most 1048576: NARROWER than '..Said'. Prove '..Said' where nothing that the law and all that it calls make is longer than what came in: it says more and counts as full. Else prove '..UptoSaid'. A law counts once. -/
mutual
def uptoBulk {H : Type} : DataW H → Nat
  | .lit (.string bytes) => bytes.length + 1
  | .lit _ => 1
  | .nil => 1
  | .ptr d => uptoBulk d + 1
  | .slice elems spare => uptoBulkAll elems + uptoBulkAll spare + 1
  | .agg parts => uptoBulkAll parts + 1
  | .iface _ d => uptoBulk d + 1
  | .map entries => uptoBulkEntries entries + 1
  | .held _ => 1
def uptoBulkAll {H : Type} : List (DataW H) → Nat
  | [] => 0
  | d :: r => uptoBulk d + uptoBulkAll r
def uptoBulkEntries {H : Type} : List (Lit × DataW H) → Nat
  | [] => 0
  | x :: r => uptoBulkEntry x + uptoBulkEntries r
def uptoBulkEntry {H : Type} : Lit × DataW H → Nat
  | (.string bytes, d) => bytes.length + uptoBulk d + 1
  | (_, d) => uptoBulk d + 1
 end
def uptoSmall : (H : Type) → List (DataW H) → Bool := fun _ ds => decide (uptoBulkAll ds ≤ 1048576)
def OpenSpec.upto (s : _root_.Go.ChangeSpec) : _root_.Go.OpenSpec := { _root_.Go.OpenSpec.ofChange s with cond := some uptoSmall }

/-- 'ravelinlaw15.InstrWrites', WHERE WHAT IT READS IS OF BULK AT MOST 1048576: true; the input reads as it did. -/
def instrWritesUptoRow : OpenClaim := { program := "ytjocifamacpamaa", sum := "2efd9c0a7a16f0b75096b98caa2a0d08f91d5ab01623c19ca7a88fcaf9378a83", func := "ravelin/ravelinlaw15.InstrWrites", spec := "instrWrites", inPlace := ["internal/bytealg.IndexByteString", "internal/bytealg.IndexString"], named := ["internal/bytealg.MaxLen"], apart := false, narrowed := true }
def InstrWritesUptoSaid : Prop := instrWritesUptoRow.holds Try.pinned (OpenSpec.upto instrWritesSpec)

/-- 'ravelinlaw15.InstrForms', WHERE WHAT IT READS IS OF BULK AT MOST 1048576: true; the input reads as it did. -/
def instrFormsUptoRow : OpenClaim := { program := "ytjocifamacpamaa", sum := "2efd9c0a7a16f0b75096b98caa2a0d08f91d5ab01623c19ca7a88fcaf9378a83", func := "ravelin/ravelinlaw15.InstrForms", spec := "instrForms", inPlace := ["internal/bytealg.IndexByteString", "internal/bytealg.IndexString"], named := ["internal/bytealg.MaxLen"], apart := false, narrowed := true }
def InstrFormsUptoSaid : Prop := instrFormsUptoRow.holds Try.pinned (OpenSpec.upto instrFormsSpec)

/-- 'ravelinlaw15.InstrReads', WHERE WHAT IT READS IS OF BULK AT MOST 1048576: true; the input reads as it did. -/
def instrReadsUptoRow : OpenClaim := { program := "ytjocifamacpamaa", sum := "2efd9c0a7a16f0b75096b98caa2a0d08f91d5ab01623c19ca7a88fcaf9378a83", func := "ravelin/ravelinlaw15.InstrReads", spec := "instrReads", inPlace := ["internal/bytealg.IndexByteString", "internal/bytealg.IndexString"], named := ["internal/bytealg.MaxLen"], apart := false, narrowed := true }
def InstrReadsUptoSaid : Prop := instrReadsUptoRow.holds Try.pinned (OpenSpec.upto instrReadsSpec)

/-- 'ravelinlaw15.InstrBack', WHERE WHAT IT READS IS OF BULK AT MOST 1048576: true; the input reads as it did. -/
def instrBackUptoRow : OpenClaim := { program := "ytjocifamacpamaa", sum := "2efd9c0a7a16f0b75096b98caa2a0d08f91d5ab01623c19ca7a88fcaf9378a83", func := "ravelin/ravelinlaw15.InstrBack", spec := "instrBack", inPlace := ["internal/bytealg.IndexByteString", "internal/bytealg.IndexString"], named := ["internal/bytealg.MaxLen"], apart := false, narrowed := true }
def InstrBackUptoSaid : Prop := instrBackUptoRow.holds Try.pinned (OpenSpec.upto instrBackSpec)

/-- 'ravelinlaw18.FlowNext', WHERE WHAT IT READS IS OF BULK AT MOST 1048576: true; the input reads as it did. -/
def flowNextUptoRow : OpenClaim := { program := "ytjocifamacpamaa", sum := "2efd9c0a7a16f0b75096b98caa2a0d08f91d5ab01623c19ca7a88fcaf9378a83", func := "ravelin/ravelinlaw18.FlowNext", spec := "flowNext", inPlace := ["internal/bytealg.IndexByteString", "internal/bytealg.IndexString"], recurses := true, named := ["internal/bytealg.MaxLen"], loops := true, apart := false, narrowed := true }
def FlowNextUptoSaid : Prop := flowNextUptoRow.holds Try.pinned (OpenSpec.upto flowNextSpec)

/-- 'ravelinlaw18.FlowPosts', WHERE WHAT IT READS IS OF BULK AT MOST 1048576: true; the input reads as it did. -/
def flowPostsUptoRow : OpenClaim := { program := "ytjocifamacpamaa", sum := "2efd9c0a7a16f0b75096b98caa2a0d08f91d5ab01623c19ca7a88fcaf9378a83", func := "ravelin/ravelinlaw18.FlowPosts", spec := "flowPosts", inPlace := ["internal/bytealg.IndexByteString", "internal/bytealg.IndexString"], recurses := true, named := ["internal/bytealg.MaxLen"], loops := true, apart := false, narrowed := true }
def FlowPostsUptoSaid : Prop := flowPostsUptoRow.holds Try.pinned (OpenSpec.upto flowPostsSpec)

/-- 'ravelinlaw18.FlowOne', WHERE WHAT IT READS IS OF BULK AT MOST 1048576: true; the input reads as it did. -/
def flowOneUptoRow : OpenClaim := { program := "ytjocifamacpamaa", sum := "2efd9c0a7a16f0b75096b98caa2a0d08f91d5ab01623c19ca7a88fcaf9378a83", func := "ravelin/ravelinlaw18.FlowOne", spec := "flowOne", inPlace := ["internal/bytealg.IndexByteString", "internal/bytealg.IndexString"], recurses := true, named := ["internal/bytealg.MaxLen"], loops := true, apart := false, narrowed := true }
def FlowOneUptoSaid : Prop := flowOneUptoRow.holds Try.pinned (OpenSpec.upto flowOneSpec)

/-- 'ravelinlaw18.FlowMeets', WHERE WHAT IT READS IS OF BULK AT MOST 1048576: true; the input reads as it did. -/
def flowMeetsUptoRow : OpenClaim := { program := "ytjocifamacpamaa", sum := "2efd9c0a7a16f0b75096b98caa2a0d08f91d5ab01623c19ca7a88fcaf9378a83", func := "ravelin/ravelinlaw18.FlowMeets", spec := "flowMeets", inPlace := ["internal/bytealg.IndexByteString", "internal/bytealg.IndexString"], recurses := true, named := ["internal/bytealg.MaxLen"], loops := true, apart := false, narrowed := true }
def FlowMeetsUptoSaid : Prop := flowMeetsUptoRow.holds Try.pinned (OpenSpec.upto flowMeetsSpec)

/-- 'ravelinlaw18.FlowReach', WHERE WHAT IT READS IS OF BULK AT MOST 1048576: true; the input reads as it did. -/
def flowReachUptoRow : OpenClaim := { program := "ytjocifamacpamaa", sum := "2efd9c0a7a16f0b75096b98caa2a0d08f91d5ab01623c19ca7a88fcaf9378a83", func := "ravelin/ravelinlaw18.FlowReach", spec := "flowReach", inPlace := ["internal/bytealg.IndexByteString", "internal/bytealg.IndexString"], recurses := true, named := ["internal/bytealg.MaxLen"], loops := true, apart := false, narrowed := true }
def FlowReachUptoSaid : Prop := flowReachUptoRow.holds Try.pinned (OpenSpec.upto flowReachSpec)

/-- 'ravelinlaw18.FlowWrites', WHERE WHAT IT READS IS OF BULK AT MOST 1048576: true; the input reads as it did. -/
def flowWritesUptoRow : OpenClaim := { program := "ytjocifamacpamaa", sum := "2efd9c0a7a16f0b75096b98caa2a0d08f91d5ab01623c19ca7a88fcaf9378a83", func := "ravelin/ravelinlaw18.FlowWrites", spec := "flowWrites", inPlace := ["internal/bytealg.IndexByteString", "internal/bytealg.IndexString"], recurses := true, named := ["internal/bytealg.MaxLen"], loops := true, apart := false, narrowed := true }
def FlowWritesUptoSaid : Prop := flowWritesUptoRow.holds Try.pinned (OpenSpec.upto flowWritesSpec)

end Rows
end Go.Proofs.Ytjocifamacpamaa
