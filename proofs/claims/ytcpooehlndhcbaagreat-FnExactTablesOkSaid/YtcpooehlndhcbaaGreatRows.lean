/-
  NARROWER THAN 'FOR EVERY INPUT', by the rows' own cells (each row's printed sentence says how): FnExactRefreshMarks: loops · FnExactAddAbsence: loops · FnExactSimplifyGoal: loops · FnExactSpecializeRel: loops · FnExactGroundStep: loops · FnExactGroundRows: loops · FnExactUnfoldCall: loops · FnExactTablesOk: loops · FnExactGroundAfter: loops · FnExactBaseOk: loops · FnExactSimplifyProgram: loops.
  DERIVED. THE GIVEN ROWS OF THIS SEAT. 11 by the template 'for every input the law returns true; each argument reads behind the call as it read before'; 0 by the template 'total and deterministic' (their statements: YtcpooehlndhcbaaGreatTotals.lean).
  GIVEN WITH THE SEED: the statements are not yours to turn. If you find one false, say at which input.
  Laid BY PROGRAM, IN A SANDBOX (cutbox-rows.mjs): the forced cells as the released guide's own fill.sh prints them over the translation feeee50bbcfed0b0… (all of the seat's roots in one cut). By AI agents, Wed Nov 11 2026. No macro, syntax, notation, axiom, sorry.
-/
import Derived.Test.YtcpooehlndhcbaaGreatChecked
import GoSem.Claim
import GoSem.ClaimJoined
import GoSem.ClaimMapViews
import Derived.JoinedTies
import Derived.KernelRfl
namespace Go.Proofs.YtcpooehlndhcbaaGreat
/- THE CELL 'sum', in the pinned program and in every row, IS THE sha256 OF THE DUMP (.gsa) THAT YtcpooehlndhcbaaGreatProg.lean LOADS. Nothing in Lean hashes anything: it is a label: what it is worth is what the hold of that sum in a sandbox is worth. -/
noncomputable def Tryz.pinned : Pinned := { name := "ytcpooehlndhcbaagreat", sum := "feeee50bbcfed0b00b92af21bf05e74672b4b8e67fc2ebe8aa71f16ae75431c3", checked := Tryz.checked }
namespace Rows
def none {H : Type} : Left H := { results := [], args := [] }

/-- 'laws.FnExactRefreshMarks': WHATEVER THE INPUT: true; the input reads as it did. -/
def fnExactRefreshMarksSpec : ChangeSpec := { name := "fnExactRefreshMarks", fn := fun _ => fun
  | [d1, d2] => { results := [.lit (.bool true)], args := [d1, d2] }
  | _ => none }
def fnExactRefreshMarksRow : OpenClaim := { program := "ytcpooehlndhcbaagreat", sum := "feeee50bbcfed0b00b92af21bf05e74672b4b8e67fc2ebe8aa71f16ae75431c3", func := "loop.example/g03210/laws.FnExactRefreshMarks", spec := "fnExactRefreshMarks", inPlace := ["internal/reflectlite.ValueOf", "internal/reflectlite.Swapper", "(internal/reflectlite.Value).Len"], unfollowed := true, recurses := true, loops := true, plainKeys := false, apart := false }
def FnExactRefreshMarksSaid : Prop := fnExactRefreshMarksRow.holds Tryz.pinned (OpenSpec.ofChange fnExactRefreshMarksSpec)

/-- ITS FALSE NEIGHBOUR: 'it returns false'. Refute it at one input. -/
def fnExactRefreshMarksWrong : ChangeSpec := { name := "fnExactRefreshMarks", fn := fun _ => fun
  | [d1, d2] => { results := [.lit (.bool false)], args := [d1, d2] }
  | _ => none }
def FnExactRefreshMarksWrongFalsely : Prop := fnExactRefreshMarksRow.holds Tryz.pinned (OpenSpec.ofChange fnExactRefreshMarksWrong)

/-- 'laws.FnExactAddAbsence': WHATEVER THE INPUT: true; the input reads as it did. -/
def fnExactAddAbsenceSpec : ChangeSpec := { name := "fnExactAddAbsence", fn := fun _ => fun
  | [d1, d2, d3, d4] => { results := [.lit (.bool true)], args := [d1, d2, d3, d4] }
  | _ => none }
def fnExactAddAbsenceRow : OpenClaim := { program := "ytcpooehlndhcbaagreat", sum := "feeee50bbcfed0b00b92af21bf05e74672b4b8e67fc2ebe8aa71f16ae75431c3", func := "loop.example/g03210/laws.FnExactAddAbsence", spec := "fnExactAddAbsence", inPlace := ["internal/reflectlite.ValueOf", "internal/reflectlite.Swapper", "(internal/reflectlite.Value).Len"], unfollowed := true, recurses := true, loops := true, plainKeys := false, apart := false }
def FnExactAddAbsenceSaid : Prop := fnExactAddAbsenceRow.holds Tryz.pinned (OpenSpec.ofChange fnExactAddAbsenceSpec)

/-- ITS FALSE NEIGHBOUR: 'it returns false'. Refute it at one input. -/
def fnExactAddAbsenceWrong : ChangeSpec := { name := "fnExactAddAbsence", fn := fun _ => fun
  | [d1, d2, d3, d4] => { results := [.lit (.bool false)], args := [d1, d2, d3, d4] }
  | _ => none }
def FnExactAddAbsenceWrongFalsely : Prop := fnExactAddAbsenceRow.holds Tryz.pinned (OpenSpec.ofChange fnExactAddAbsenceWrong)

/-- 'laws.FnExactSimplifyGoal': WHATEVER THE INPUT: true; the input reads as it did. -/
def fnExactSimplifyGoalSpec : ChangeSpec := { name := "fnExactSimplifyGoal", fn := fun _ => fun
  | [d] => { results := [.lit (.bool true)], args := [d] }
  | _ => none }
def fnExactSimplifyGoalRow : OpenClaim := { program := "ytcpooehlndhcbaagreat", sum := "feeee50bbcfed0b00b92af21bf05e74672b4b8e67fc2ebe8aa71f16ae75431c3", func := "loop.example/g03210/laws.FnExactSimplifyGoal", spec := "fnExactSimplifyGoal", unfollowed := true, recurses := true, loops := true, plainKeys := false, apart := false }
def FnExactSimplifyGoalSaid : Prop := fnExactSimplifyGoalRow.holds Tryz.pinned (OpenSpec.ofChange fnExactSimplifyGoalSpec)

/-- ITS FALSE NEIGHBOUR: 'it returns false'. Refute it at one input. -/
def fnExactSimplifyGoalWrong : ChangeSpec := { name := "fnExactSimplifyGoal", fn := fun _ => fun
  | [d] => { results := [.lit (.bool false)], args := [d] }
  | _ => none }
def FnExactSimplifyGoalWrongFalsely : Prop := fnExactSimplifyGoalRow.holds Tryz.pinned (OpenSpec.ofChange fnExactSimplifyGoalWrong)

/-- 'laws.FnExactSpecializeRel': WHATEVER THE INPUT: true; the input reads as it did. -/
def fnExactSpecializeRelSpec : ChangeSpec := { name := "fnExactSpecializeRel", fn := fun _ => fun
  | [d1, d2, d3, d4, d5] => { results := [.lit (.bool true)], args := [d1, d2, d3, d4, d5] }
  | _ => none }
def fnExactSpecializeRelRow : OpenClaim := { program := "ytcpooehlndhcbaagreat", sum := "feeee50bbcfed0b00b92af21bf05e74672b4b8e67fc2ebe8aa71f16ae75431c3", func := "loop.example/g03210/laws.FnExactSpecializeRel", spec := "fnExactSpecializeRel", unfollowed := true, recurses := true, loops := true, plainKeys := false, apart := false }
def FnExactSpecializeRelSaid : Prop := fnExactSpecializeRelRow.holds Tryz.pinned (OpenSpec.ofChange fnExactSpecializeRelSpec)

/-- ITS FALSE NEIGHBOUR: 'it returns false'. Refute it at one input. -/
def fnExactSpecializeRelWrong : ChangeSpec := { name := "fnExactSpecializeRel", fn := fun _ => fun
  | [d1, d2, d3, d4, d5] => { results := [.lit (.bool false)], args := [d1, d2, d3, d4, d5] }
  | _ => none }
def FnExactSpecializeRelWrongFalsely : Prop := fnExactSpecializeRelRow.holds Tryz.pinned (OpenSpec.ofChange fnExactSpecializeRelWrong)

/-- 'laws.FnExactGroundStep': WHATEVER THE INPUT: true; the input reads as it did. -/
def fnExactGroundStepSpec : ChangeSpec := { name := "fnExactGroundStep", fn := fun _ => fun
  | [d1, d2] => { results := [.lit (.bool true)], args := [d1, d2] }
  | _ => none }
def fnExactGroundStepRow : OpenClaim := { program := "ytcpooehlndhcbaagreat", sum := "feeee50bbcfed0b00b92af21bf05e74672b4b8e67fc2ebe8aa71f16ae75431c3", func := "loop.example/g03210/laws.FnExactGroundStep", spec := "fnExactGroundStep", unfollowed := true, recurses := true, loops := true, plainKeys := false, apart := false }
def FnExactGroundStepSaid : Prop := fnExactGroundStepRow.holds Tryz.pinned (OpenSpec.ofChange fnExactGroundStepSpec)

/-- ITS FALSE NEIGHBOUR: 'it returns false'. Refute it at one input. -/
def fnExactGroundStepWrong : ChangeSpec := { name := "fnExactGroundStep", fn := fun _ => fun
  | [d1, d2] => { results := [.lit (.bool false)], args := [d1, d2] }
  | _ => none }
def FnExactGroundStepWrongFalsely : Prop := fnExactGroundStepRow.holds Tryz.pinned (OpenSpec.ofChange fnExactGroundStepWrong)

/-- 'laws.FnExactGroundRows': WHATEVER THE INPUT: true; the input reads as it did. -/
def fnExactGroundRowsSpec : ChangeSpec := { name := "fnExactGroundRows", fn := fun _ => fun
  | [d] => { results := [.lit (.bool true)], args := [d] }
  | _ => none }
def fnExactGroundRowsRow : OpenClaim := { program := "ytcpooehlndhcbaagreat", sum := "feeee50bbcfed0b00b92af21bf05e74672b4b8e67fc2ebe8aa71f16ae75431c3", func := "loop.example/g03210/laws.FnExactGroundRows", spec := "fnExactGroundRows", unfollowed := true, recurses := true, loops := true, plainKeys := false, apart := false }
def FnExactGroundRowsSaid : Prop := fnExactGroundRowsRow.holds Tryz.pinned (OpenSpec.ofChange fnExactGroundRowsSpec)

/-- ITS FALSE NEIGHBOUR: 'it returns false'. Refute it at one input. -/
def fnExactGroundRowsWrong : ChangeSpec := { name := "fnExactGroundRows", fn := fun _ => fun
  | [d] => { results := [.lit (.bool false)], args := [d] }
  | _ => none }
def FnExactGroundRowsWrongFalsely : Prop := fnExactGroundRowsRow.holds Tryz.pinned (OpenSpec.ofChange fnExactGroundRowsWrong)

/-- 'laws.FnExactUnfoldCall': WHATEVER THE INPUT: true; the input reads as it did. -/
def fnExactUnfoldCallSpec : ChangeSpec := { name := "fnExactUnfoldCall", fn := fun _ => fun
  | [d1, d2, d3, d4] => { results := [.lit (.bool true)], args := [d1, d2, d3, d4] }
  | _ => none }
def fnExactUnfoldCallRow : OpenClaim := { program := "ytcpooehlndhcbaagreat", sum := "feeee50bbcfed0b00b92af21bf05e74672b4b8e67fc2ebe8aa71f16ae75431c3", func := "loop.example/g03210/laws.FnExactUnfoldCall", spec := "fnExactUnfoldCall", unfollowed := true, recurses := true, loops := true, plainKeys := false, apart := false }
def FnExactUnfoldCallSaid : Prop := fnExactUnfoldCallRow.holds Tryz.pinned (OpenSpec.ofChange fnExactUnfoldCallSpec)

/-- ITS FALSE NEIGHBOUR: 'it returns false'. Refute it at one input. -/
def fnExactUnfoldCallWrong : ChangeSpec := { name := "fnExactUnfoldCall", fn := fun _ => fun
  | [d1, d2, d3, d4] => { results := [.lit (.bool false)], args := [d1, d2, d3, d4] }
  | _ => none }
def FnExactUnfoldCallWrongFalsely : Prop := fnExactUnfoldCallRow.holds Tryz.pinned (OpenSpec.ofChange fnExactUnfoldCallWrong)

/-- 'laws.FnExactTablesOk': WHATEVER THE INPUT: true; the input reads as it did. -/
def fnExactTablesOkSpec : ChangeSpec := { name := "fnExactTablesOk", fn := fun _ => fun
  | [d1, d2] => { results := [.lit (.bool true)], args := [d1, d2] }
  | _ => none }
def fnExactTablesOkRow : OpenClaim := { program := "ytcpooehlndhcbaagreat", sum := "feeee50bbcfed0b00b92af21bf05e74672b4b8e67fc2ebe8aa71f16ae75431c3", func := "loop.example/g03210/laws.FnExactTablesOk", spec := "fnExactTablesOk", unfollowed := true, recurses := true, loops := true, plainKeys := false, apart := false }
def FnExactTablesOkSaid : Prop := fnExactTablesOkRow.holds Tryz.pinned (OpenSpec.ofChange fnExactTablesOkSpec)

/-- ITS FALSE NEIGHBOUR: 'it returns false'. Refute it at one input. -/
def fnExactTablesOkWrong : ChangeSpec := { name := "fnExactTablesOk", fn := fun _ => fun
  | [d1, d2] => { results := [.lit (.bool false)], args := [d1, d2] }
  | _ => none }
def FnExactTablesOkWrongFalsely : Prop := fnExactTablesOkRow.holds Tryz.pinned (OpenSpec.ofChange fnExactTablesOkWrong)

/-- 'laws.FnExactGroundAfter': WHATEVER THE INPUT: true; the input reads as it did. -/
def fnExactGroundAfterSpec : ChangeSpec := { name := "fnExactGroundAfter", fn := fun _ => fun
  | [d1, d2, d3] => { results := [.lit (.bool true)], args := [d1, d2, d3] }
  | _ => none }
def fnExactGroundAfterRow : OpenClaim := { program := "ytcpooehlndhcbaagreat", sum := "feeee50bbcfed0b00b92af21bf05e74672b4b8e67fc2ebe8aa71f16ae75431c3", func := "loop.example/g03210/laws.FnExactGroundAfter", spec := "fnExactGroundAfter", unfollowed := true, recurses := true, loops := true, plainKeys := false, apart := false }
def FnExactGroundAfterSaid : Prop := fnExactGroundAfterRow.holds Tryz.pinned (OpenSpec.ofChange fnExactGroundAfterSpec)

/-- ITS FALSE NEIGHBOUR: 'it returns false'. Refute it at one input. -/
def fnExactGroundAfterWrong : ChangeSpec := { name := "fnExactGroundAfter", fn := fun _ => fun
  | [d1, d2, d3] => { results := [.lit (.bool false)], args := [d1, d2, d3] }
  | _ => none }
def FnExactGroundAfterWrongFalsely : Prop := fnExactGroundAfterRow.holds Tryz.pinned (OpenSpec.ofChange fnExactGroundAfterWrong)

/-- 'laws.FnExactBaseOk': WHATEVER THE INPUT: true; the input reads as it did. -/
def fnExactBaseOkSpec : ChangeSpec := { name := "fnExactBaseOk", fn := fun _ => fun
  | [d1, d2, d3] => { results := [.lit (.bool true)], args := [d1, d2, d3] }
  | _ => none }
def fnExactBaseOkRow : OpenClaim := { program := "ytcpooehlndhcbaagreat", sum := "feeee50bbcfed0b00b92af21bf05e74672b4b8e67fc2ebe8aa71f16ae75431c3", func := "loop.example/g03210/laws.FnExactBaseOk", spec := "fnExactBaseOk", unfollowed := true, recurses := true, loops := true, plainKeys := false, apart := false }
def FnExactBaseOkSaid : Prop := fnExactBaseOkRow.holds Tryz.pinned (OpenSpec.ofChange fnExactBaseOkSpec)

/-- ITS FALSE NEIGHBOUR: 'it returns false'. Refute it at one input. -/
def fnExactBaseOkWrong : ChangeSpec := { name := "fnExactBaseOk", fn := fun _ => fun
  | [d1, d2, d3] => { results := [.lit (.bool false)], args := [d1, d2, d3] }
  | _ => none }
def FnExactBaseOkWrongFalsely : Prop := fnExactBaseOkRow.holds Tryz.pinned (OpenSpec.ofChange fnExactBaseOkWrong)

/-- 'laws.FnExactSimplifyProgram': WHATEVER THE INPUT: true; the input reads as it did. -/
def fnExactSimplifyProgramSpec : ChangeSpec := { name := "fnExactSimplifyProgram", fn := fun _ => fun
  | [d] => { results := [.lit (.bool true)], args := [d] }
  | _ => none }
def fnExactSimplifyProgramRow : OpenClaim := { program := "ytcpooehlndhcbaagreat", sum := "feeee50bbcfed0b00b92af21bf05e74672b4b8e67fc2ebe8aa71f16ae75431c3", func := "loop.example/g03210/laws.FnExactSimplifyProgram", spec := "fnExactSimplifyProgram", unfollowed := true, recurses := true, loops := true, plainKeys := false, apart := false }
def FnExactSimplifyProgramSaid : Prop := fnExactSimplifyProgramRow.holds Tryz.pinned (OpenSpec.ofChange fnExactSimplifyProgramSpec)

/-- ITS FALSE NEIGHBOUR: 'it returns false'. Refute it at one input. -/
def fnExactSimplifyProgramWrong : ChangeSpec := { name := "fnExactSimplifyProgram", fn := fun _ => fun
  | [d] => { results := [.lit (.bool false)], args := [d] }
  | _ => none }
def FnExactSimplifyProgramWrongFalsely : Prop := fnExactSimplifyProgramRow.holds Tryz.pinned (OpenSpec.ofChange fnExactSimplifyProgramWrong)

/- THE SECOND FORM. 'bulk': how many values and letters a reading holds, each counted each time it is reached (what is shared counts as often as it is met; a slice's spare places count too). A statement '..UptoSaid' is the law's where the arguments, and the package variables that the reading takes, are together of bulk at most 1048576: NARROWER than '..Said'. Prove '..Said' where nothing that the law and all that it calls make is longer than what came in: it says more and counts as full. Else prove '..UptoSaid'. A law counts once. -/
mutual
def uptoBulk {H : Type} : DataW H → Nat
  | .lit (.string bytes) => bytes.length + 1
  | .lit _ => 1
  | .nil => 1
  | .ptr d => uptoBulk d + 1
  | .slice elems spare => uptoBulkAll elems + uptoBulkAll spare + 1
  | .agg parts => uptoBulkAll parts + 1
  | .iface _ d => uptoBulk d + 1
  | .map entries => uptoBulkEntries entries + 1
  | .held _ => 1
def uptoBulkAll {H : Type} : List (DataW H) → Nat
  | [] => 0
  | d :: r => uptoBulk d + uptoBulkAll r
def uptoBulkEntries {H : Type} : List (Lit × DataW H) → Nat
  | [] => 0
  | x :: r => uptoBulkEntry x + uptoBulkEntries r
def uptoBulkEntry {H : Type} : Lit × DataW H → Nat
  | (.string bytes, d) => bytes.length + uptoBulk d + 1
  | (_, d) => uptoBulk d + 1
 end
def uptoSmall : (H : Type) → List (DataW H) → Bool := fun _ ds => decide (uptoBulkAll ds ≤ 1048576)
def OpenSpec.upto (s : _root_.Go.ChangeSpec) : _root_.Go.OpenSpec := { _root_.Go.OpenSpec.ofChange s with cond := some uptoSmall }

/-- 'laws.FnExactRefreshMarks', WHERE WHAT IT READS IS OF BULK AT MOST 1048576: true; the input reads as it did. -/
def fnExactRefreshMarksUptoRow : OpenClaim := { program := "ytcpooehlndhcbaagreat", sum := "feeee50bbcfed0b00b92af21bf05e74672b4b8e67fc2ebe8aa71f16ae75431c3", func := "loop.example/g03210/laws.FnExactRefreshMarks", spec := "fnExactRefreshMarks", inPlace := ["internal/reflectlite.ValueOf", "internal/reflectlite.Swapper", "(internal/reflectlite.Value).Len"], unfollowed := true, recurses := true, loops := true, plainKeys := false, apart := false, narrowed := true }
def FnExactRefreshMarksUptoSaid : Prop := fnExactRefreshMarksUptoRow.holds Tryz.pinned (OpenSpec.upto fnExactRefreshMarksSpec)

/-- 'laws.FnExactAddAbsence', WHERE WHAT IT READS IS OF BULK AT MOST 1048576: true; the input reads as it did. -/
def fnExactAddAbsenceUptoRow : OpenClaim := { program := "ytcpooehlndhcbaagreat", sum := "feeee50bbcfed0b00b92af21bf05e74672b4b8e67fc2ebe8aa71f16ae75431c3", func := "loop.example/g03210/laws.FnExactAddAbsence", spec := "fnExactAddAbsence", inPlace := ["internal/reflectlite.ValueOf", "internal/reflectlite.Swapper", "(internal/reflectlite.Value).Len"], unfollowed := true, recurses := true, loops := true, plainKeys := false, apart := false, narrowed := true }
def FnExactAddAbsenceUptoSaid : Prop := fnExactAddAbsenceUptoRow.holds Tryz.pinned (OpenSpec.upto fnExactAddAbsenceSpec)

/-- 'laws.FnExactSimplifyGoal', WHERE WHAT IT READS IS OF BULK AT MOST 1048576: true; the input reads as it did. -/
def fnExactSimplifyGoalUptoRow : OpenClaim := { program := "ytcpooehlndhcbaagreat", sum := "feeee50bbcfed0b00b92af21bf05e74672b4b8e67fc2ebe8aa71f16ae75431c3", func := "loop.example/g03210/laws.FnExactSimplifyGoal", spec := "fnExactSimplifyGoal", unfollowed := true, recurses := true, loops := true, plainKeys := false, apart := false, narrowed := true }
def FnExactSimplifyGoalUptoSaid : Prop := fnExactSimplifyGoalUptoRow.holds Tryz.pinned (OpenSpec.upto fnExactSimplifyGoalSpec)

/-- 'laws.FnExactSpecializeRel', WHERE WHAT IT READS IS OF BULK AT MOST 1048576: true; the input reads as it did. -/
def fnExactSpecializeRelUptoRow : OpenClaim := { program := "ytcpooehlndhcbaagreat", sum := "feeee50bbcfed0b00b92af21bf05e74672b4b8e67fc2ebe8aa71f16ae75431c3", func := "loop.example/g03210/laws.FnExactSpecializeRel", spec := "fnExactSpecializeRel", unfollowed := true, recurses := true, loops := true, plainKeys := false, apart := false, narrowed := true }
def FnExactSpecializeRelUptoSaid : Prop := fnExactSpecializeRelUptoRow.holds Tryz.pinned (OpenSpec.upto fnExactSpecializeRelSpec)

/-- 'laws.FnExactGroundStep', WHERE WHAT IT READS IS OF BULK AT MOST 1048576: true; the input reads as it did. -/
def fnExactGroundStepUptoRow : OpenClaim := { program := "ytcpooehlndhcbaagreat", sum := "feeee50bbcfed0b00b92af21bf05e74672b4b8e67fc2ebe8aa71f16ae75431c3", func := "loop.example/g03210/laws.FnExactGroundStep", spec := "fnExactGroundStep", unfollowed := true, recurses := true, loops := true, plainKeys := false, apart := false, narrowed := true }
def FnExactGroundStepUptoSaid : Prop := fnExactGroundStepUptoRow.holds Tryz.pinned (OpenSpec.upto fnExactGroundStepSpec)

/-- 'laws.FnExactGroundRows', WHERE WHAT IT READS IS OF BULK AT MOST 1048576: true; the input reads as it did. -/
def fnExactGroundRowsUptoRow : OpenClaim := { program := "ytcpooehlndhcbaagreat", sum := "feeee50bbcfed0b00b92af21bf05e74672b4b8e67fc2ebe8aa71f16ae75431c3", func := "loop.example/g03210/laws.FnExactGroundRows", spec := "fnExactGroundRows", unfollowed := true, recurses := true, loops := true, plainKeys := false, apart := false, narrowed := true }
def FnExactGroundRowsUptoSaid : Prop := fnExactGroundRowsUptoRow.holds Tryz.pinned (OpenSpec.upto fnExactGroundRowsSpec)

/-- 'laws.FnExactUnfoldCall', WHERE WHAT IT READS IS OF BULK AT MOST 1048576: true; the input reads as it did. -/
def fnExactUnfoldCallUptoRow : OpenClaim := { program := "ytcpooehlndhcbaagreat", sum := "feeee50bbcfed0b00b92af21bf05e74672b4b8e67fc2ebe8aa71f16ae75431c3", func := "loop.example/g03210/laws.FnExactUnfoldCall", spec := "fnExactUnfoldCall", unfollowed := true, recurses := true, loops := true, plainKeys := false, apart := false, narrowed := true }
def FnExactUnfoldCallUptoSaid : Prop := fnExactUnfoldCallUptoRow.holds Tryz.pinned (OpenSpec.upto fnExactUnfoldCallSpec)

/-- 'laws.FnExactTablesOk', WHERE WHAT IT READS IS OF BULK AT MOST 1048576: true; the input reads as it did. -/
def fnExactTablesOkUptoRow : OpenClaim := { program := "ytcpooehlndhcbaagreat", sum := "feeee50bbcfed0b00b92af21bf05e74672b4b8e67fc2ebe8aa71f16ae75431c3", func := "loop.example/g03210/laws.FnExactTablesOk", spec := "fnExactTablesOk", unfollowed := true, recurses := true, loops := true, plainKeys := false, apart := false, narrowed := true }
def FnExactTablesOkUptoSaid : Prop := fnExactTablesOkUptoRow.holds Tryz.pinned (OpenSpec.upto fnExactTablesOkSpec)

/-- 'laws.FnExactGroundAfter', WHERE WHAT IT READS IS OF BULK AT MOST 1048576: true; the input reads as it did. -/
def fnExactGroundAfterUptoRow : OpenClaim := { program := "ytcpooehlndhcbaagreat", sum := "feeee50bbcfed0b00b92af21bf05e74672b4b8e67fc2ebe8aa71f16ae75431c3", func := "loop.example/g03210/laws.FnExactGroundAfter", spec := "fnExactGroundAfter", unfollowed := true, recurses := true, loops := true, plainKeys := false, apart := false, narrowed := true }
def FnExactGroundAfterUptoSaid : Prop := fnExactGroundAfterUptoRow.holds Tryz.pinned (OpenSpec.upto fnExactGroundAfterSpec)

/-- 'laws.FnExactBaseOk', WHERE WHAT IT READS IS OF BULK AT MOST 1048576: true; the input reads as it did. -/
def fnExactBaseOkUptoRow : OpenClaim := { program := "ytcpooehlndhcbaagreat", sum := "feeee50bbcfed0b00b92af21bf05e74672b4b8e67fc2ebe8aa71f16ae75431c3", func := "loop.example/g03210/laws.FnExactBaseOk", spec := "fnExactBaseOk", unfollowed := true, recurses := true, loops := true, plainKeys := false, apart := false, narrowed := true }
def FnExactBaseOkUptoSaid : Prop := fnExactBaseOkUptoRow.holds Tryz.pinned (OpenSpec.upto fnExactBaseOkSpec)

/-- 'laws.FnExactSimplifyProgram', WHERE WHAT IT READS IS OF BULK AT MOST 1048576: true; the input reads as it did. -/
def fnExactSimplifyProgramUptoRow : OpenClaim := { program := "ytcpooehlndhcbaagreat", sum := "feeee50bbcfed0b00b92af21bf05e74672b4b8e67fc2ebe8aa71f16ae75431c3", func := "loop.example/g03210/laws.FnExactSimplifyProgram", spec := "fnExactSimplifyProgram", unfollowed := true, recurses := true, loops := true, plainKeys := false, apart := false, narrowed := true }
def FnExactSimplifyProgramUptoSaid : Prop := fnExactSimplifyProgramUptoRow.holds Tryz.pinned (OpenSpec.upto fnExactSimplifyProgramSpec)

end Rows
end Go.Proofs.YtcpooehlndhcbaaGreat
