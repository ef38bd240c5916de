/-
  No cell of these rows narrows 'for every input' (looked for: loops, veiled, ifaces, maps, wideKeys, modest, calm, conditions, laid).
  DERIVED. THE GIVEN ROWS OF THIS SEAT. 9 by the template 'for every input the law returns true; each argument reads behind the call as it read before'; 0 by the template 'total and deterministic' (their statements: YtokddeoliieofaaTotals.lean).
  GIVEN WITH THE SEED: the statements are not yours to turn. If you find one false, say at which input.
  Laid BY PROGRAM, IN A SANDBOX (cutbox-rows.mjs): the forced cells as the released guide's own fill.sh prints them over the translation 8e2e4e8bd40e3bf5… (all of the seat's roots in one cut). By AI agents, Wed Nov 11 2026. No macro, syntax, notation, axiom, sorry.
-/
import Derived.Test.YtokddeoliieofaaChecked
import GoSem.Claim
import GoSem.ClaimJoined
import GoSem.ClaimMapViews
import Derived.JoinedTies
import Derived.KernelRfl
namespace Go.Proofs.Ytokddeoliieofaa
/- THE CELL 'sum', in the pinned program and in every row, IS THE sha256 OF THE DUMP (.gsa) THAT YtokddeoliieofaaProg.lean LOADS. Nothing in Lean hashes anything: it is a label: what it is worth is what the hold of that sum in a sandbox is worth. -/
noncomputable def Try.pinned : Pinned := { name := "ytokddeoliieofaa", sum := "8e2e4e8bd40e3bf51043907e30e1e4a974e14b969e586a0bbf7d49b1151967b0", checked := Try.checked }
namespace Rows
def none {H : Type} : Left H := { results := [], args := [] }

/-- 'laws.FnMissing': WHATEVER THE INPUT: true; the input reads as it did. -/
def fnMissingSpec : ChangeSpec := { name := "fnMissing", fn := fun _ => fun
  | [d] => { results := [.lit (.bool true)], args := [d] }
  | _ => none }
def fnMissingRow : OpenClaim := { program := "ytokddeoliieofaa", sum := "8e2e4e8bd40e3bf51043907e30e1e4a974e14b969e586a0bbf7d49b1151967b0", func := "loop.example/blockboxes/laws.FnMissing", spec := "fnMissing", inPlace := ["internal/bytealg.IndexByteString", "internal/bytealg.IndexString", "internal/abi.NoEscape"], named := ["internal/bytealg.MaxLen"], apart := false }
def FnMissingSaid : Prop := fnMissingRow.holds Try.pinned (OpenSpec.ofChange fnMissingSpec)

/-- ITS FALSE NEIGHBOUR: 'it returns false'. Refute it at one input. -/
def fnMissingWrong : ChangeSpec := { name := "fnMissing", fn := fun _ => fun
  | [d] => { results := [.lit (.bool false)], args := [d] }
  | _ => none }
def FnMissingWrongFalsely : Prop := fnMissingRow.holds Try.pinned (OpenSpec.ofChange fnMissingWrong)

/-- 'laws.FnExactRegisterTrains': WHATEVER THE INPUT: true; the input reads as it did. -/
def fnExactRegisterTrainsSpec : ChangeSpec := { name := "fnExactRegisterTrains", fn := fun _ => fun
  | [d] => { results := [.lit (.bool true)], args := [d] }
  | _ => none }
def fnExactRegisterTrainsRow : OpenClaim := { program := "ytokddeoliieofaa", sum := "8e2e4e8bd40e3bf51043907e30e1e4a974e14b969e586a0bbf7d49b1151967b0", func := "loop.example/blockboxes/laws.FnExactRegisterTrains", spec := "fnExactRegisterTrains", inPlace := ["internal/bytealg.IndexByteString", "internal/bytealg.IndexString", "internal/abi.NoEscape"], unfollowed := true, recurses := true, named := ["internal/bytealg.MaxLen"], apart := false }
def FnExactRegisterTrainsSaid : Prop := fnExactRegisterTrainsRow.holds Try.pinned (OpenSpec.ofChange fnExactRegisterTrainsSpec)

/-- ITS FALSE NEIGHBOUR: 'it returns false'. Refute it at one input. -/
def fnExactRegisterTrainsWrong : ChangeSpec := { name := "fnExactRegisterTrains", fn := fun _ => fun
  | [d] => { results := [.lit (.bool false)], args := [d] }
  | _ => none }
def FnExactRegisterTrainsWrongFalsely : Prop := fnExactRegisterTrainsRow.holds Try.pinned (OpenSpec.ofChange fnExactRegisterTrainsWrong)

/-- 'laws.FnSound': WHATEVER THE INPUT: true; the input reads as it did. -/
def fnSoundSpec : ChangeSpec := { name := "fnSound", fn := fun _ => fun
  | [d1, d2] => { results := [.lit (.bool true)], args := [d1, d2] }
  | _ => none }
def fnSoundRow : OpenClaim := { program := "ytokddeoliieofaa", sum := "8e2e4e8bd40e3bf51043907e30e1e4a974e14b969e586a0bbf7d49b1151967b0", func := "loop.example/blockboxes/laws.FnSound", spec := "fnSound", inPlace := ["internal/bytealg.IndexByteString", "internal/bytealg.IndexString", "internal/abi.NoEscape"], unfollowed := true, recurses := true, named := ["internal/bytealg.MaxLen"], apart := false }
def FnSoundSaid : Prop := fnSoundRow.holds Try.pinned (OpenSpec.ofChange fnSoundSpec)

/-- ITS FALSE NEIGHBOUR: 'it returns false'. Refute it at one input. -/
def fnSoundWrong : ChangeSpec := { name := "fnSound", fn := fun _ => fun
  | [d1, d2] => { results := [.lit (.bool false)], args := [d1, d2] }
  | _ => none }
def FnSoundWrongFalsely : Prop := fnSoundRow.holds Try.pinned (OpenSpec.ofChange fnSoundWrong)

/-- 'laws.FnRegisterJoin': WHATEVER THE INPUT: true; the input reads as it did. -/
def fnRegisterJoinSpec : ChangeSpec := { name := "fnRegisterJoin", fn := fun _ => fun
  | [d] => { results := [.lit (.bool true)], args := [d] }
  | _ => none }
def fnRegisterJoinRow : OpenClaim := { program := "ytokddeoliieofaa", sum := "8e2e4e8bd40e3bf51043907e30e1e4a974e14b969e586a0bbf7d49b1151967b0", func := "loop.example/blockboxes/laws.FnRegisterJoin", spec := "fnRegisterJoin", inPlace := ["internal/bytealg.IndexByteString", "internal/bytealg.IndexString", "internal/abi.NoEscape"], unfollowed := true, recurses := true, named := ["internal/bytealg.MaxLen"], apart := false }
def FnRegisterJoinSaid : Prop := fnRegisterJoinRow.holds Try.pinned (OpenSpec.ofChange fnRegisterJoinSpec)

/-- ITS FALSE NEIGHBOUR: 'it returns false'. Refute it at one input. -/
def fnRegisterJoinWrong : ChangeSpec := { name := "fnRegisterJoin", fn := fun _ => fun
  | [d] => { results := [.lit (.bool false)], args := [d] }
  | _ => none }
def FnRegisterJoinWrongFalsely : Prop := fnRegisterJoinRow.holds Try.pinned (OpenSpec.ofChange fnRegisterJoinWrong)

/-- 'laws.FnRegisterTrains': WHATEVER THE INPUT: true; the input reads as it did. -/
def fnRegisterTrainsSpec : ChangeSpec := { name := "fnRegisterTrains", fn := fun _ => fun
  | [d] => { results := [.lit (.bool true)], args := [d] }
  | _ => none }
def fnRegisterTrainsRow : OpenClaim := { program := "ytokddeoliieofaa", sum := "8e2e4e8bd40e3bf51043907e30e1e4a974e14b969e586a0bbf7d49b1151967b0", func := "loop.example/blockboxes/laws.FnRegisterTrains", spec := "fnRegisterTrains", inPlace := ["internal/bytealg.IndexByteString", "internal/bytealg.IndexString", "internal/abi.NoEscape"], unfollowed := true, recurses := true, named := ["internal/bytealg.MaxLen"], apart := false }
def FnRegisterTrainsSaid : Prop := fnRegisterTrainsRow.holds Try.pinned (OpenSpec.ofChange fnRegisterTrainsSpec)

/-- ITS FALSE NEIGHBOUR: 'it returns false'. Refute it at one input. -/
def fnRegisterTrainsWrong : ChangeSpec := { name := "fnRegisterTrains", fn := fun _ => fun
  | [d] => { results := [.lit (.bool false)], args := [d] }
  | _ => none }
def FnRegisterTrainsWrongFalsely : Prop := fnRegisterTrainsRow.holds Try.pinned (OpenSpec.ofChange fnRegisterTrainsWrong)

/-- 'laws.FnRegisterBlock': WHATEVER THE INPUT: true; the input reads as it did. -/
def fnRegisterBlockSpec : ChangeSpec := { name := "fnRegisterBlock", fn := fun _ => fun
  | [d] => { results := [.lit (.bool true)], args := [d] }
  | _ => none }
def fnRegisterBlockRow : OpenClaim := { program := "ytokddeoliieofaa", sum := "8e2e4e8bd40e3bf51043907e30e1e4a974e14b969e586a0bbf7d49b1151967b0", func := "loop.example/blockboxes/laws.FnRegisterBlock", spec := "fnRegisterBlock", inPlace := ["internal/bytealg.IndexByteString", "internal/bytealg.IndexString", "internal/abi.NoEscape", "internal/bytealg.CountString"], unfollowed := true, recurses := true, named := ["internal/bytealg.MaxLen"], apart := false }
def FnRegisterBlockSaid : Prop := fnRegisterBlockRow.holds Try.pinned (OpenSpec.ofChange fnRegisterBlockSpec)

/-- ITS FALSE NEIGHBOUR: 'it returns false'. Refute it at one input. -/
def fnRegisterBlockWrong : ChangeSpec := { name := "fnRegisterBlock", fn := fun _ => fun
  | [d] => { results := [.lit (.bool false)], args := [d] }
  | _ => none }
def FnRegisterBlockWrongFalsely : Prop := fnRegisterBlockRow.holds Try.pinned (OpenSpec.ofChange fnRegisterBlockWrong)

/-- 'laws.FnExactRegisterFix': WHATEVER THE INPUT: true; the input reads as it did. -/
def fnExactRegisterFixSpec : ChangeSpec := { name := "fnExactRegisterFix", fn := fun _ => fun
  | [d] => { results := [.lit (.bool true)], args := [d] }
  | _ => none }
def fnExactRegisterFixRow : OpenClaim := { program := "ytokddeoliieofaa", sum := "8e2e4e8bd40e3bf51043907e30e1e4a974e14b969e586a0bbf7d49b1151967b0", func := "loop.example/blockboxes/laws.FnExactRegisterFix", spec := "fnExactRegisterFix", inPlace := ["internal/bytealg.IndexByteString", "internal/bytealg.IndexString", "internal/abi.NoEscape"], unfollowed := true, recurses := true, named := ["internal/bytealg.MaxLen"], apart := false }
def FnExactRegisterFixSaid : Prop := fnExactRegisterFixRow.holds Try.pinned (OpenSpec.ofChange fnExactRegisterFixSpec)

/-- ITS FALSE NEIGHBOUR: 'it returns false'. Refute it at one input. -/
def fnExactRegisterFixWrong : ChangeSpec := { name := "fnExactRegisterFix", fn := fun _ => fun
  | [d] => { results := [.lit (.bool false)], args := [d] }
  | _ => none }
def FnExactRegisterFixWrongFalsely : Prop := fnExactRegisterFixRow.holds Try.pinned (OpenSpec.ofChange fnExactRegisterFixWrong)

/-- 'laws.FnRegisterFix': WHATEVER THE INPUT: true; the input reads as it did. -/
def fnRegisterFixSpec : ChangeSpec := { name := "fnRegisterFix", fn := fun _ => fun
  | [d] => { results := [.lit (.bool true)], args := [d] }
  | _ => none }
def fnRegisterFixRow : OpenClaim := { program := "ytokddeoliieofaa", sum := "8e2e4e8bd40e3bf51043907e30e1e4a974e14b969e586a0bbf7d49b1151967b0", func := "loop.example/blockboxes/laws.FnRegisterFix", spec := "fnRegisterFix", inPlace := ["internal/bytealg.IndexByteString", "internal/bytealg.IndexString", "internal/abi.NoEscape"], unfollowed := true, recurses := true, named := ["internal/bytealg.MaxLen"], apart := false }
def FnRegisterFixSaid : Prop := fnRegisterFixRow.holds Try.pinned (OpenSpec.ofChange fnRegisterFixSpec)

/-- ITS FALSE NEIGHBOUR: 'it returns false'. Refute it at one input. -/
def fnRegisterFixWrong : ChangeSpec := { name := "fnRegisterFix", fn := fun _ => fun
  | [d] => { results := [.lit (.bool false)], args := [d] }
  | _ => none }
def FnRegisterFixWrongFalsely : Prop := fnRegisterFixRow.holds Try.pinned (OpenSpec.ofChange fnRegisterFixWrong)

/-- 'laws.FnRegisterLine': WHATEVER THE INPUT: true; the input reads as it did. -/
def fnRegisterLineSpec : ChangeSpec := { name := "fnRegisterLine", fn := fun _ => fun
  | [d] => { results := [.lit (.bool true)], args := [d] }
  | _ => none }
def fnRegisterLineRow : OpenClaim := { program := "ytokddeoliieofaa", sum := "8e2e4e8bd40e3bf51043907e30e1e4a974e14b969e586a0bbf7d49b1151967b0", func := "loop.example/blockboxes/laws.FnRegisterLine", spec := "fnRegisterLine", inPlace := ["internal/abi.NoEscape", "internal/bytealg.IndexByteString", "internal/bytealg.IndexString"], unfollowed := true, recurses := true, named := ["internal/bytealg.MaxLen"], apart := false }
def FnRegisterLineSaid : Prop := fnRegisterLineRow.holds Try.pinned (OpenSpec.ofChange fnRegisterLineSpec)

/-- ITS FALSE NEIGHBOUR: 'it returns false'. Refute it at one input. -/
def fnRegisterLineWrong : ChangeSpec := { name := "fnRegisterLine", fn := fun _ => fun
  | [d] => { results := [.lit (.bool false)], args := [d] }
  | _ => none }
def FnRegisterLineWrongFalsely : Prop := fnRegisterLineRow.holds Try.pinned (OpenSpec.ofChange fnRegisterLineWrong)

/- THE SECOND FORM. 'bulk': how many values and letters a reading holds, each counted each time it is reached (what is shared counts as often as it is met; a slice's spare places count too). A statement '..UptoSaid' is the law's where the arguments, and the package variables that the reading takes, are together of bulk at most 1048576: NARROWER than '..Said'. Prove '..Said' where nothing that the law and all that it calls make is longer than what came in: it says more and counts as full. Else prove '..UptoSaid'. A law counts once. -/
mutual
def uptoBulk {H : Type} : DataW H → Nat
  | .lit (.string bytes) => bytes.length + 1
  | .lit _ => 1
  | .nil => 1
  | .ptr d => uptoBulk d + 1
  | .slice elems spare => uptoBulkAll elems + uptoBulkAll spare + 1
  | .agg parts => uptoBulkAll parts + 1
  | .iface _ d => uptoBulk d + 1
  | .map entries => uptoBulkEntries entries + 1
  | .held _ => 1
def uptoBulkAll {H : Type} : List (DataW H) → Nat
  | [] => 0
  | d :: r => uptoBulk d + uptoBulkAll r
def uptoBulkEntries {H : Type} : List (Lit × DataW H) → Nat
  | [] => 0
  | x :: r => uptoBulkEntry x + uptoBulkEntries r
def uptoBulkEntry {H : Type} : Lit × DataW H → Nat
  | (.string bytes, d) => bytes.length + uptoBulk d + 1
  | (_, d) => uptoBulk d + 1
 end
def uptoSmall : (H : Type) → List (DataW H) → Bool := fun _ ds => decide (uptoBulkAll ds ≤ 1048576)
def OpenSpec.upto (s : _root_.Go.ChangeSpec) : _root_.Go.OpenSpec := { _root_.Go.OpenSpec.ofChange s with cond := some uptoSmall }

/-- 'laws.FnMissing', WHERE WHAT IT READS IS OF BULK AT MOST 1048576: true; the input reads as it did. -/
def fnMissingUptoRow : OpenClaim := { program := "ytokddeoliieofaa", sum := "8e2e4e8bd40e3bf51043907e30e1e4a974e14b969e586a0bbf7d49b1151967b0", func := "loop.example/blockboxes/laws.FnMissing", spec := "fnMissing", inPlace := ["internal/bytealg.IndexByteString", "internal/bytealg.IndexString", "internal/abi.NoEscape"], named := ["internal/bytealg.MaxLen"], apart := false, narrowed := true }
def FnMissingUptoSaid : Prop := fnMissingUptoRow.holds Try.pinned (OpenSpec.upto fnMissingSpec)

/-- 'laws.FnExactRegisterTrains', WHERE WHAT IT READS IS OF BULK AT MOST 1048576: true; the input reads as it did. -/
def fnExactRegisterTrainsUptoRow : OpenClaim := { program := "ytokddeoliieofaa", sum := "8e2e4e8bd40e3bf51043907e30e1e4a974e14b969e586a0bbf7d49b1151967b0", func := "loop.example/blockboxes/laws.FnExactRegisterTrains", spec := "fnExactRegisterTrains", inPlace := ["internal/bytealg.IndexByteString", "internal/bytealg.IndexString", "internal/abi.NoEscape"], unfollowed := true, recurses := true, named := ["internal/bytealg.MaxLen"], apart := false, narrowed := true }
def FnExactRegisterTrainsUptoSaid : Prop := fnExactRegisterTrainsUptoRow.holds Try.pinned (OpenSpec.upto fnExactRegisterTrainsSpec)

/-- 'laws.FnSound', WHERE WHAT IT READS IS OF BULK AT MOST 1048576: true; the input reads as it did. -/
def fnSoundUptoRow : OpenClaim := { program := "ytokddeoliieofaa", sum := "8e2e4e8bd40e3bf51043907e30e1e4a974e14b969e586a0bbf7d49b1151967b0", func := "loop.example/blockboxes/laws.FnSound", spec := "fnSound", inPlace := ["internal/bytealg.IndexByteString", "internal/bytealg.IndexString", "internal/abi.NoEscape"], unfollowed := true, recurses := true, named := ["internal/bytealg.MaxLen"], apart := false, narrowed := true }
def FnSoundUptoSaid : Prop := fnSoundUptoRow.holds Try.pinned (OpenSpec.upto fnSoundSpec)

/-- 'laws.FnRegisterJoin', WHERE WHAT IT READS IS OF BULK AT MOST 1048576: true; the input reads as it did. -/
def fnRegisterJoinUptoRow : OpenClaim := { program := "ytokddeoliieofaa", sum := "8e2e4e8bd40e3bf51043907e30e1e4a974e14b969e586a0bbf7d49b1151967b0", func := "loop.example/blockboxes/laws.FnRegisterJoin", spec := "fnRegisterJoin", inPlace := ["internal/bytealg.IndexByteString", "internal/bytealg.IndexString", "internal/abi.NoEscape"], unfollowed := true, recurses := true, named := ["internal/bytealg.MaxLen"], apart := false, narrowed := true }
def FnRegisterJoinUptoSaid : Prop := fnRegisterJoinUptoRow.holds Try.pinned (OpenSpec.upto fnRegisterJoinSpec)

/-- 'laws.FnRegisterTrains', WHERE WHAT IT READS IS OF BULK AT MOST 1048576: true; the input reads as it did. -/
def fnRegisterTrainsUptoRow : OpenClaim := { program := "ytokddeoliieofaa", sum := "8e2e4e8bd40e3bf51043907e30e1e4a974e14b969e586a0bbf7d49b1151967b0", func := "loop.example/blockboxes/laws.FnRegisterTrains", spec := "fnRegisterTrains", inPlace := ["internal/bytealg.IndexByteString", "internal/bytealg.IndexString", "internal/abi.NoEscape"], unfollowed := true, recurses := true, named := ["internal/bytealg.MaxLen"], apart := false, narrowed := true }
def FnRegisterTrainsUptoSaid : Prop := fnRegisterTrainsUptoRow.holds Try.pinned (OpenSpec.upto fnRegisterTrainsSpec)

/-- 'laws.FnRegisterBlock', WHERE WHAT IT READS IS OF BULK AT MOST 1048576: true; the input reads as it did. -/
def fnRegisterBlockUptoRow : OpenClaim := { program := "ytokddeoliieofaa", sum := "8e2e4e8bd40e3bf51043907e30e1e4a974e14b969e586a0bbf7d49b1151967b0", func := "loop.example/blockboxes/laws.FnRegisterBlock", spec := "fnRegisterBlock", inPlace := ["internal/bytealg.IndexByteString", "internal/bytealg.IndexString", "internal/abi.NoEscape", "internal/bytealg.CountString"], unfollowed := true, recurses := true, named := ["internal/bytealg.MaxLen"], apart := false, narrowed := true }
def FnRegisterBlockUptoSaid : Prop := fnRegisterBlockUptoRow.holds Try.pinned (OpenSpec.upto fnRegisterBlockSpec)

/-- 'laws.FnExactRegisterFix', WHERE WHAT IT READS IS OF BULK AT MOST 1048576: true; the input reads as it did. -/
def fnExactRegisterFixUptoRow : OpenClaim := { program := "ytokddeoliieofaa", sum := "8e2e4e8bd40e3bf51043907e30e1e4a974e14b969e586a0bbf7d49b1151967b0", func := "loop.example/blockboxes/laws.FnExactRegisterFix", spec := "fnExactRegisterFix", inPlace := ["internal/bytealg.IndexByteString", "internal/bytealg.IndexString", "internal/abi.NoEscape"], unfollowed := true, recurses := true, named := ["internal/bytealg.MaxLen"], apart := false, narrowed := true }
def FnExactRegisterFixUptoSaid : Prop := fnExactRegisterFixUptoRow.holds Try.pinned (OpenSpec.upto fnExactRegisterFixSpec)

/-- 'laws.FnRegisterFix', WHERE WHAT IT READS IS OF BULK AT MOST 1048576: true; the input reads as it did. -/
def fnRegisterFixUptoRow : OpenClaim := { program := "ytokddeoliieofaa", sum := "8e2e4e8bd40e3bf51043907e30e1e4a974e14b969e586a0bbf7d49b1151967b0", func := "loop.example/blockboxes/laws.FnRegisterFix", spec := "fnRegisterFix", inPlace := ["internal/bytealg.IndexByteString", "internal/bytealg.IndexString", "internal/abi.NoEscape"], unfollowed := true, recurses := true, named := ["internal/bytealg.MaxLen"], apart := false, narrowed := true }
def FnRegisterFixUptoSaid : Prop := fnRegisterFixUptoRow.holds Try.pinned (OpenSpec.upto fnRegisterFixSpec)

/-- 'laws.FnRegisterLine', WHERE WHAT IT READS IS OF BULK AT MOST 1048576: true; the input reads as it did. -/
def fnRegisterLineUptoRow : OpenClaim := { program := "ytokddeoliieofaa", sum := "8e2e4e8bd40e3bf51043907e30e1e4a974e14b969e586a0bbf7d49b1151967b0", func := "loop.example/blockboxes/laws.FnRegisterLine", spec := "fnRegisterLine", inPlace := ["internal/abi.NoEscape", "internal/bytealg.IndexByteString", "internal/bytealg.IndexString"], unfollowed := true, recurses := true, named := ["internal/bytealg.MaxLen"], apart := false, narrowed := true }
def FnRegisterLineUptoSaid : Prop := fnRegisterLineUptoRow.holds Try.pinned (OpenSpec.upto fnRegisterLineSpec)

end Rows
end Go.Proofs.Ytokddeoliieofaa
