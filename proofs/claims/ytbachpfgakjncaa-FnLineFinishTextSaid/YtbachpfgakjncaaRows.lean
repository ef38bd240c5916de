/-
  No cell of these rows narrows 'for every input' (looked for: loops, veiled, ifaces, maps, wideKeys, modest, calm, conditions, laid).
  DERIVED. THE GIVEN ROWS OF THIS SEAT. 8 by the template 'for every input the law returns true; each argument reads behind the call as it read before'; 0 by the template 'total and deterministic' (their statements: YtbachpfgakjncaaTotals.lean).
  GIVEN WITH THE SEED: the statements are not yours to turn. If you find one false, say at which input.
  Laid BY PROGRAM, IN A SANDBOX (cutbox-rows.mjs): the forced cells as the released guide's own fill.sh prints them over the translation 828fab6a7cb16275… (all of the seat's roots in one cut). By AI agents, Wed Nov 11 2026. No macro, syntax, notation, axiom, sorry.
-/
import Derived.Test.YtbachpfgakjncaaChecked
import GoSem.Claim
import GoSem.ClaimJoined
import GoSem.ClaimMapViews
import Derived.JoinedTies
import Derived.KernelRfl
namespace Go.Proofs.Ytbachpfgakjncaa
/- THE CELL 'sum', in the pinned program and in every row, IS THE sha256 OF THE DUMP (.gsa) THAT YtbachpfgakjncaaProg.lean LOADS. Nothing in Lean hashes anything: it is a label: what it is worth is what the hold of that sum in a sandbox is worth. -/
noncomputable def Try.pinned : Pinned := { name := "ytbachpfgakjncaa", sum := "828fab6a7cb16275190436e86c5bce3260b28827223c8b58fb2b9875ea50a5d3", checked := Try.checked }
namespace Rows
def none {H : Type} : Left H := { results := [], args := [] }

/-- 'laws.FnLineMoves': WHATEVER THE INPUT: true; the input reads as it did. -/
def fnLineMovesSpec : ChangeSpec := { name := "fnLineMoves", fn := fun _ => fun
  | [d1, d2] => { results := [.lit (.bool true)], args := [d1, d2] }
  | _ => none }
def fnLineMovesRow : OpenClaim := { program := "ytbachpfgakjncaa", sum := "828fab6a7cb16275190436e86c5bce3260b28827223c8b58fb2b9875ea50a5d3", func := "loop.example/blockboxes/laws.FnLineMoves", spec := "fnLineMoves", inPlace := ["internal/abi.NoEscape"], unfollowed := true, recurses := true, apart := false }
def FnLineMovesSaid : Prop := fnLineMovesRow.holds Try.pinned (OpenSpec.ofChange fnLineMovesSpec)

/-- ITS FALSE NEIGHBOUR: 'it returns false'. Refute it at one input. -/
def fnLineMovesWrong : ChangeSpec := { name := "fnLineMoves", fn := fun _ => fun
  | [d1, d2] => { results := [.lit (.bool false)], args := [d1, d2] }
  | _ => none }
def FnLineMovesWrongFalsely : Prop := fnLineMovesRow.holds Try.pinned (OpenSpec.ofChange fnLineMovesWrong)

/-- 'laws.FnExactLineMoves': WHATEVER THE INPUT: true; the input reads as it did. -/
def fnExactLineMovesSpec : ChangeSpec := { name := "fnExactLineMoves", fn := fun _ => fun
  | [d] => { results := [.lit (.bool true)], args := [d] }
  | _ => none }
def fnExactLineMovesRow : OpenClaim := { program := "ytbachpfgakjncaa", sum := "828fab6a7cb16275190436e86c5bce3260b28827223c8b58fb2b9875ea50a5d3", func := "loop.example/blockboxes/laws.FnExactLineMoves", spec := "fnExactLineMoves", inPlace := ["internal/abi.NoEscape"], unfollowed := true, recurses := true, apart := false }
def FnExactLineMovesSaid : Prop := fnExactLineMovesRow.holds Try.pinned (OpenSpec.ofChange fnExactLineMovesSpec)

/-- ITS FALSE NEIGHBOUR: 'it returns false'. Refute it at one input. -/
def fnExactLineMovesWrong : ChangeSpec := { name := "fnExactLineMoves", fn := fun _ => fun
  | [d] => { results := [.lit (.bool false)], args := [d] }
  | _ => none }
def FnExactLineMovesWrongFalsely : Prop := fnExactLineMovesRow.holds Try.pinned (OpenSpec.ofChange fnExactLineMovesWrong)

/-- 'laws.FnLineFinishText': WHATEVER THE INPUT: true; the input reads as it did. -/
def fnLineFinishTextSpec : ChangeSpec := { name := "fnLineFinishText", fn := fun _ => fun
  | [d] => { results := [.lit (.bool true)], args := [d] }
  | _ => none }
def fnLineFinishTextRow : OpenClaim := { program := "ytbachpfgakjncaa", sum := "828fab6a7cb16275190436e86c5bce3260b28827223c8b58fb2b9875ea50a5d3", func := "loop.example/blockboxes/laws.FnLineFinishText", spec := "fnLineFinishText", inPlace := ["internal/abi.NoEscape", "internal/bytealg.MakeNoZero"], unfollowed := true, recurses := true, apart := false }
def FnLineFinishTextSaid : Prop := fnLineFinishTextRow.holds Try.pinned (OpenSpec.ofChange fnLineFinishTextSpec)

/-- ITS FALSE NEIGHBOUR: 'it returns false'. Refute it at one input. -/
def fnLineFinishTextWrong : ChangeSpec := { name := "fnLineFinishText", fn := fun _ => fun
  | [d] => { results := [.lit (.bool false)], args := [d] }
  | _ => none }
def FnLineFinishTextWrongFalsely : Prop := fnLineFinishTextRow.holds Try.pinned (OpenSpec.ofChange fnLineFinishTextWrong)

/-- 'laws.FnLineLeft': WHATEVER THE INPUT: true; the input reads as it did. -/
def fnLineLeftSpec : ChangeSpec := { name := "fnLineLeft", fn := fun _ => fun
  | [d] => { results := [.lit (.bool true)], args := [d] }
  | _ => none }
def fnLineLeftRow : OpenClaim := { program := "ytbachpfgakjncaa", sum := "828fab6a7cb16275190436e86c5bce3260b28827223c8b58fb2b9875ea50a5d3", func := "loop.example/blockboxes/laws.FnLineLeft", spec := "fnLineLeft", inPlace := ["internal/abi.NoEscape"], unfollowed := true, recurses := true, apart := false }
def FnLineLeftSaid : Prop := fnLineLeftRow.holds Try.pinned (OpenSpec.ofChange fnLineLeftSpec)

/-- ITS FALSE NEIGHBOUR: 'it returns false'. Refute it at one input. -/
def fnLineLeftWrong : ChangeSpec := { name := "fnLineLeft", fn := fun _ => fun
  | [d] => { results := [.lit (.bool false)], args := [d] }
  | _ => none }
def FnLineLeftWrongFalsely : Prop := fnLineLeftRow.holds Try.pinned (OpenSpec.ofChange fnLineLeftWrong)

/-- 'laws.FnExactLineRun': WHATEVER THE INPUT: true; the input reads as it did. -/
def fnExactLineRunSpec : ChangeSpec := { name := "fnExactLineRun", fn := fun _ => fun
  | [d1, d2] => { results := [.lit (.bool true)], args := [d1, d2] }
  | _ => none }
def fnExactLineRunRow : OpenClaim := { program := "ytbachpfgakjncaa", sum := "828fab6a7cb16275190436e86c5bce3260b28827223c8b58fb2b9875ea50a5d3", func := "loop.example/blockboxes/laws.FnExactLineRun", spec := "fnExactLineRun", unfollowed := true, recurses := true, apart := false }
def FnExactLineRunSaid : Prop := fnExactLineRunRow.holds Try.pinned (OpenSpec.ofChange fnExactLineRunSpec)

/-- ITS FALSE NEIGHBOUR: 'it returns false'. Refute it at one input. -/
def fnExactLineRunWrong : ChangeSpec := { name := "fnExactLineRun", fn := fun _ => fun
  | [d1, d2] => { results := [.lit (.bool false)], args := [d1, d2] }
  | _ => none }
def FnExactLineRunWrongFalsely : Prop := fnExactLineRunRow.holds Try.pinned (OpenSpec.ofChange fnExactLineRunWrong)

/-- 'laws.FnLineFinish': WHATEVER THE INPUT: true; the input reads as it did. -/
def fnLineFinishSpec : ChangeSpec := { name := "fnLineFinish", fn := fun _ => fun
  | [d1, d2] => { results := [.lit (.bool true)], args := [d1, d2] }
  | _ => none }
def fnLineFinishRow : OpenClaim := { program := "ytbachpfgakjncaa", sum := "828fab6a7cb16275190436e86c5bce3260b28827223c8b58fb2b9875ea50a5d3", func := "loop.example/blockboxes/laws.FnLineFinish", spec := "fnLineFinish", inPlace := ["internal/abi.NoEscape"], unfollowed := true, recurses := true, apart := false }
def FnLineFinishSaid : Prop := fnLineFinishRow.holds Try.pinned (OpenSpec.ofChange fnLineFinishSpec)

/-- ITS FALSE NEIGHBOUR: 'it returns false'. Refute it at one input. -/
def fnLineFinishWrong : ChangeSpec := { name := "fnLineFinish", fn := fun _ => fun
  | [d1, d2] => { results := [.lit (.bool false)], args := [d1, d2] }
  | _ => none }
def FnLineFinishWrongFalsely : Prop := fnLineFinishRow.holds Try.pinned (OpenSpec.ofChange fnLineFinishWrong)

/-- 'laws.FnLineDone': WHATEVER THE INPUT: true; the input reads as it did. -/
def fnLineDoneSpec : ChangeSpec := { name := "fnLineDone", fn := fun _ => fun
  | [d] => { results := [.lit (.bool true)], args := [d] }
  | _ => none }
def fnLineDoneRow : OpenClaim := { program := "ytbachpfgakjncaa", sum := "828fab6a7cb16275190436e86c5bce3260b28827223c8b58fb2b9875ea50a5d3", func := "loop.example/blockboxes/laws.FnLineDone", spec := "fnLineDone", inPlace := ["internal/abi.NoEscape"], unfollowed := true, recurses := true, apart := false }
def FnLineDoneSaid : Prop := fnLineDoneRow.holds Try.pinned (OpenSpec.ofChange fnLineDoneSpec)

/-- ITS FALSE NEIGHBOUR: 'it returns false'. Refute it at one input. -/
def fnLineDoneWrong : ChangeSpec := { name := "fnLineDone", fn := fun _ => fun
  | [d] => { results := [.lit (.bool false)], args := [d] }
  | _ => none }
def FnLineDoneWrongFalsely : Prop := fnLineDoneRow.holds Try.pinned (OpenSpec.ofChange fnLineDoneWrong)

/-- 'laws.FnExactLineFinish': WHATEVER THE INPUT: true; the input reads as it did. -/
def fnExactLineFinishSpec : ChangeSpec := { name := "fnExactLineFinish", fn := fun _ => fun
  | [d] => { results := [.lit (.bool true)], args := [d] }
  | _ => none }
def fnExactLineFinishRow : OpenClaim := { program := "ytbachpfgakjncaa", sum := "828fab6a7cb16275190436e86c5bce3260b28827223c8b58fb2b9875ea50a5d3", func := "loop.example/blockboxes/laws.FnExactLineFinish", spec := "fnExactLineFinish", inPlace := ["internal/abi.NoEscape"], unfollowed := true, recurses := true, apart := false }
def FnExactLineFinishSaid : Prop := fnExactLineFinishRow.holds Try.pinned (OpenSpec.ofChange fnExactLineFinishSpec)

/-- ITS FALSE NEIGHBOUR: 'it returns false'. Refute it at one input. -/
def fnExactLineFinishWrong : ChangeSpec := { name := "fnExactLineFinish", fn := fun _ => fun
  | [d] => { results := [.lit (.bool false)], args := [d] }
  | _ => none }
def FnExactLineFinishWrongFalsely : Prop := fnExactLineFinishRow.holds Try.pinned (OpenSpec.ofChange fnExactLineFinishWrong)

/- THE SECOND FORM. 'bulk': how many values and letters a reading holds, each counted each time it is reached (what is shared counts as often as it is met; a slice's spare places count too). A statement '..UptoSaid' is the law's where the arguments, and the package variables that the reading takes, are together of bulk at most 1048576: NARROWER than '..Said'. Prove '..Said' where nothing that the law and all that it calls make is longer than what came in: it says more and counts as full. Else prove '..UptoSaid'. A law counts once. -/
mutual
def uptoBulk {H : Type} : DataW H → Nat
  | .lit (.string bytes) => bytes.length + 1
  | .lit _ => 1
  | .nil => 1
  | .ptr d => uptoBulk d + 1
  | .slice elems spare => uptoBulkAll elems + uptoBulkAll spare + 1
  | .agg parts => uptoBulkAll parts + 1
  | .iface _ d => uptoBulk d + 1
  | .map entries => uptoBulkEntries entries + 1
  | .held _ => 1
def uptoBulkAll {H : Type} : List (DataW H) → Nat
  | [] => 0
  | d :: r => uptoBulk d + uptoBulkAll r
def uptoBulkEntries {H : Type} : List (Lit × DataW H) → Nat
  | [] => 0
  | x :: r => uptoBulkEntry x + uptoBulkEntries r
def uptoBulkEntry {H : Type} : Lit × DataW H → Nat
  | (.string bytes, d) => bytes.length + uptoBulk d + 1
  | (_, d) => uptoBulk d + 1
 end
def uptoSmall : (H : Type) → List (DataW H) → Bool := fun _ ds => decide (uptoBulkAll ds ≤ 1048576)
def OpenSpec.upto (s : _root_.Go.ChangeSpec) : _root_.Go.OpenSpec := { _root_.Go.OpenSpec.ofChange s with cond := some uptoSmall }

/-- 'laws.FnLineMoves', WHERE WHAT IT READS IS OF BULK AT MOST 1048576: true; the input reads as it did. -/
def fnLineMovesUptoRow : OpenClaim := { program := "ytbachpfgakjncaa", sum := "828fab6a7cb16275190436e86c5bce3260b28827223c8b58fb2b9875ea50a5d3", func := "loop.example/blockboxes/laws.FnLineMoves", spec := "fnLineMoves", inPlace := ["internal/abi.NoEscape"], unfollowed := true, recurses := true, apart := false, narrowed := true }
def FnLineMovesUptoSaid : Prop := fnLineMovesUptoRow.holds Try.pinned (OpenSpec.upto fnLineMovesSpec)

/-- 'laws.FnExactLineMoves', WHERE WHAT IT READS IS OF BULK AT MOST 1048576: true; the input reads as it did. -/
def fnExactLineMovesUptoRow : OpenClaim := { program := "ytbachpfgakjncaa", sum := "828fab6a7cb16275190436e86c5bce3260b28827223c8b58fb2b9875ea50a5d3", func := "loop.example/blockboxes/laws.FnExactLineMoves", spec := "fnExactLineMoves", inPlace := ["internal/abi.NoEscape"], unfollowed := true, recurses := true, apart := false, narrowed := true }
def FnExactLineMovesUptoSaid : Prop := fnExactLineMovesUptoRow.holds Try.pinned (OpenSpec.upto fnExactLineMovesSpec)

/-- 'laws.FnLineFinishText', WHERE WHAT IT READS IS OF BULK AT MOST 1048576: true; the input reads as it did. -/
def fnLineFinishTextUptoRow : OpenClaim := { program := "ytbachpfgakjncaa", sum := "828fab6a7cb16275190436e86c5bce3260b28827223c8b58fb2b9875ea50a5d3", func := "loop.example/blockboxes/laws.FnLineFinishText", spec := "fnLineFinishText", inPlace := ["internal/abi.NoEscape", "internal/bytealg.MakeNoZero"], unfollowed := true, recurses := true, apart := false, narrowed := true }
def FnLineFinishTextUptoSaid : Prop := fnLineFinishTextUptoRow.holds Try.pinned (OpenSpec.upto fnLineFinishTextSpec)

/-- 'laws.FnLineLeft', WHERE WHAT IT READS IS OF BULK AT MOST 1048576: true; the input reads as it did. -/
def fnLineLeftUptoRow : OpenClaim := { program := "ytbachpfgakjncaa", sum := "828fab6a7cb16275190436e86c5bce3260b28827223c8b58fb2b9875ea50a5d3", func := "loop.example/blockboxes/laws.FnLineLeft", spec := "fnLineLeft", inPlace := ["internal/abi.NoEscape"], unfollowed := true, recurses := true, apart := false, narrowed := true }
def FnLineLeftUptoSaid : Prop := fnLineLeftUptoRow.holds Try.pinned (OpenSpec.upto fnLineLeftSpec)

/-- 'laws.FnExactLineRun', WHERE WHAT IT READS IS OF BULK AT MOST 1048576: true; the input reads as it did. -/
def fnExactLineRunUptoRow : OpenClaim := { program := "ytbachpfgakjncaa", sum := "828fab6a7cb16275190436e86c5bce3260b28827223c8b58fb2b9875ea50a5d3", func := "loop.example/blockboxes/laws.FnExactLineRun", spec := "fnExactLineRun", unfollowed := true, recurses := true, apart := false, narrowed := true }
def FnExactLineRunUptoSaid : Prop := fnExactLineRunUptoRow.holds Try.pinned (OpenSpec.upto fnExactLineRunSpec)

/-- 'laws.FnLineFinish', WHERE WHAT IT READS IS OF BULK AT MOST 1048576: true; the input reads as it did. -/
def fnLineFinishUptoRow : OpenClaim := { program := "ytbachpfgakjncaa", sum := "828fab6a7cb16275190436e86c5bce3260b28827223c8b58fb2b9875ea50a5d3", func := "loop.example/blockboxes/laws.FnLineFinish", spec := "fnLineFinish", inPlace := ["internal/abi.NoEscape"], unfollowed := true, recurses := true, apart := false, narrowed := true }
def FnLineFinishUptoSaid : Prop := fnLineFinishUptoRow.holds Try.pinned (OpenSpec.upto fnLineFinishSpec)

/-- 'laws.FnLineDone', WHERE WHAT IT READS IS OF BULK AT MOST 1048576: true; the input reads as it did. -/
def fnLineDoneUptoRow : OpenClaim := { program := "ytbachpfgakjncaa", sum := "828fab6a7cb16275190436e86c5bce3260b28827223c8b58fb2b9875ea50a5d3", func := "loop.example/blockboxes/laws.FnLineDone", spec := "fnLineDone", inPlace := ["internal/abi.NoEscape"], unfollowed := true, recurses := true, apart := false, narrowed := true }
def FnLineDoneUptoSaid : Prop := fnLineDoneUptoRow.holds Try.pinned (OpenSpec.upto fnLineDoneSpec)

/-- 'laws.FnExactLineFinish', WHERE WHAT IT READS IS OF BULK AT MOST 1048576: true; the input reads as it did. -/
def fnExactLineFinishUptoRow : OpenClaim := { program := "ytbachpfgakjncaa", sum := "828fab6a7cb16275190436e86c5bce3260b28827223c8b58fb2b9875ea50a5d3", func := "loop.example/blockboxes/laws.FnExactLineFinish", spec := "fnExactLineFinish", inPlace := ["internal/abi.NoEscape"], unfollowed := true, recurses := true, apart := false, narrowed := true }
def FnExactLineFinishUptoSaid : Prop := fnExactLineFinishUptoRow.holds Try.pinned (OpenSpec.upto fnExactLineFinishSpec)

end Rows
end Go.Proofs.Ytbachpfgakjncaa
