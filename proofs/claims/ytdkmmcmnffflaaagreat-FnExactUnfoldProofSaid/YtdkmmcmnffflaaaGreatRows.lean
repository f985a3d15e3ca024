/-
  NARROWER THAN 'FOR EVERY INPUT', by the rows' own cells (each row's printed sentence says how): FnExactSimplifyGoal: loops · FnExactSpecializeRel: loops · FnExactUnfoldCall: loops · FnExactSimplifyProgram: loops · FnExactUnfoldProof: loops · FnExactCallInstances: loops.
  DERIVED. THE GIVEN ROWS OF THIS SEAT. 6 by the template 'for every input the law returns true; each argument reads behind the call as it read before'; 0 by the template 'total and deterministic' (their statements: YtdkmmcmnffflaaaGreatTotals.lean).
  GIVEN WITH THE SEED: the statements are not yours to turn. If you find one false, say at which input.
  Laid BY PROGRAM, IN A SANDBOX (cutbox-rows.mjs): the forced cells as the released guide's own fill.sh prints them over the translation 3206847776cc3094… (all of the seat's roots in one cut). By AI agents, Wed Nov 11 2026. No macro, syntax, notation, axiom, sorry.
-/
import Derived.Test.YtdkmmcmnffflaaaGreatChecked
import GoSem.Claim
import GoSem.ClaimJoined
import GoSem.ClaimMapViews
import Derived.JoinedTies
import Derived.KernelRfl
namespace Go.Proofs.YtdkmmcmnffflaaaGreat
/- THE CELL 'sum', in the pinned program and in every row, IS THE sha256 OF THE DUMP (.gsa) THAT YtdkmmcmnffflaaaGreatProg.lean LOADS. Nothing in Lean hashes anything: it is a label: what it is worth is what the hold of that sum in a sandbox is worth. -/
noncomputable def Tryz.pinned : Pinned := { name := "ytdkmmcmnffflaaagreat", sum := "3206847776cc309444c8780e94bc8afce564c97b49b5af8f3e3055c312ba881c", checked := Tryz.checked }
namespace Rows
def none {H : Type} : Left H := { results := [], args := [] }

/-- 'laws.FnExactSimplifyGoal': WHATEVER THE INPUT: true; the input reads as it did. -/
def fnExactSimplifyGoalSpec : ChangeSpec := { name := "fnExactSimplifyGoal", fn := fun _ => fun
  | [d] => { results := [.lit (.bool true)], args := [d] }
  | _ => none }
def fnExactSimplifyGoalRow : OpenClaim := { program := "ytdkmmcmnffflaaagreat", sum := "3206847776cc309444c8780e94bc8afce564c97b49b5af8f3e3055c312ba881c", func := "loop.example/g03210/laws.FnExactSimplifyGoal", spec := "fnExactSimplifyGoal", unfollowed := true, recurses := true, loops := true, apart := false }
def FnExactSimplifyGoalSaid : Prop := fnExactSimplifyGoalRow.holds Tryz.pinned (OpenSpec.ofChange fnExactSimplifyGoalSpec)

/-- ITS FALSE NEIGHBOUR: 'it returns false'. Refute it at one input. -/
def fnExactSimplifyGoalWrong : ChangeSpec := { name := "fnExactSimplifyGoal", fn := fun _ => fun
  | [d] => { results := [.lit (.bool false)], args := [d] }
  | _ => none }
def FnExactSimplifyGoalWrongFalsely : Prop := fnExactSimplifyGoalRow.holds Tryz.pinned (OpenSpec.ofChange fnExactSimplifyGoalWrong)

/-- 'laws.FnExactSpecializeRel': WHATEVER THE INPUT: true; the input reads as it did. -/
def fnExactSpecializeRelSpec : ChangeSpec := { name := "fnExactSpecializeRel", fn := fun _ => fun
  | [d1, d2, d3, d4, d5] => { results := [.lit (.bool true)], args := [d1, d2, d3, d4, d5] }
  | _ => none }
def fnExactSpecializeRelRow : OpenClaim := { program := "ytdkmmcmnffflaaagreat", sum := "3206847776cc309444c8780e94bc8afce564c97b49b5af8f3e3055c312ba881c", func := "loop.example/g03210/laws.FnExactSpecializeRel", spec := "fnExactSpecializeRel", unfollowed := true, recurses := true, loops := true, apart := false }
def FnExactSpecializeRelSaid : Prop := fnExactSpecializeRelRow.holds Tryz.pinned (OpenSpec.ofChange fnExactSpecializeRelSpec)

/-- ITS FALSE NEIGHBOUR: 'it returns false'. Refute it at one input. -/
def fnExactSpecializeRelWrong : ChangeSpec := { name := "fnExactSpecializeRel", fn := fun _ => fun
  | [d1, d2, d3, d4, d5] => { results := [.lit (.bool false)], args := [d1, d2, d3, d4, d5] }
  | _ => none }
def FnExactSpecializeRelWrongFalsely : Prop := fnExactSpecializeRelRow.holds Tryz.pinned (OpenSpec.ofChange fnExactSpecializeRelWrong)

/-- 'laws.FnExactUnfoldCall': WHATEVER THE INPUT: true; the input reads as it did. -/
def fnExactUnfoldCallSpec : ChangeSpec := { name := "fnExactUnfoldCall", fn := fun _ => fun
  | [d1, d2, d3, d4] => { results := [.lit (.bool true)], args := [d1, d2, d3, d4] }
  | _ => none }
def fnExactUnfoldCallRow : OpenClaim := { program := "ytdkmmcmnffflaaagreat", sum := "3206847776cc309444c8780e94bc8afce564c97b49b5af8f3e3055c312ba881c", func := "loop.example/g03210/laws.FnExactUnfoldCall", spec := "fnExactUnfoldCall", unfollowed := true, recurses := true, loops := true, apart := false }
def FnExactUnfoldCallSaid : Prop := fnExactUnfoldCallRow.holds Tryz.pinned (OpenSpec.ofChange fnExactUnfoldCallSpec)

/-- ITS FALSE NEIGHBOUR: 'it returns false'. Refute it at one input. -/
def fnExactUnfoldCallWrong : ChangeSpec := { name := "fnExactUnfoldCall", fn := fun _ => fun
  | [d1, d2, d3, d4] => { results := [.lit (.bool false)], args := [d1, d2, d3, d4] }
  | _ => none }
def FnExactUnfoldCallWrongFalsely : Prop := fnExactUnfoldCallRow.holds Tryz.pinned (OpenSpec.ofChange fnExactUnfoldCallWrong)

/-- 'laws.FnExactSimplifyProgram': WHATEVER THE INPUT: true; the input reads as it did. -/
def fnExactSimplifyProgramSpec : ChangeSpec := { name := "fnExactSimplifyProgram", fn := fun _ => fun
  | [d] => { results := [.lit (.bool true)], args := [d] }
  | _ => none }
def fnExactSimplifyProgramRow : OpenClaim := { program := "ytdkmmcmnffflaaagreat", sum := "3206847776cc309444c8780e94bc8afce564c97b49b5af8f3e3055c312ba881c", func := "loop.example/g03210/laws.FnExactSimplifyProgram", spec := "fnExactSimplifyProgram", unfollowed := true, recurses := true, loops := true, apart := false }
def FnExactSimplifyProgramSaid : Prop := fnExactSimplifyProgramRow.holds Tryz.pinned (OpenSpec.ofChange fnExactSimplifyProgramSpec)

/-- ITS FALSE NEIGHBOUR: 'it returns false'. Refute it at one input. -/
def fnExactSimplifyProgramWrong : ChangeSpec := { name := "fnExactSimplifyProgram", fn := fun _ => fun
  | [d] => { results := [.lit (.bool false)], args := [d] }
  | _ => none }
def FnExactSimplifyProgramWrongFalsely : Prop := fnExactSimplifyProgramRow.holds Tryz.pinned (OpenSpec.ofChange fnExactSimplifyProgramWrong)

/-- 'laws.FnExactUnfoldProof': WHATEVER THE INPUT: true; the input reads as it did. -/
def fnExactUnfoldProofSpec : ChangeSpec := { name := "fnExactUnfoldProof", fn := fun _ => fun
  | [d1, d2, d3, d4, d5] => { results := [.lit (.bool true)], args := [d1, d2, d3, d4, d5] }
  | _ => none }
def fnExactUnfoldProofRow : OpenClaim := { program := "ytdkmmcmnffflaaagreat", sum := "3206847776cc309444c8780e94bc8afce564c97b49b5af8f3e3055c312ba881c", func := "loop.example/g03210/laws.FnExactUnfoldProof", spec := "fnExactUnfoldProof", unfollowed := true, recurses := true, loops := true, apart := false }
def FnExactUnfoldProofSaid : Prop := fnExactUnfoldProofRow.holds Tryz.pinned (OpenSpec.ofChange fnExactUnfoldProofSpec)

/-- ITS FALSE NEIGHBOUR: 'it returns false'. Refute it at one input. -/
def fnExactUnfoldProofWrong : ChangeSpec := { name := "fnExactUnfoldProof", fn := fun _ => fun
  | [d1, d2, d3, d4, d5] => { results := [.lit (.bool false)], args := [d1, d2, d3, d4, d5] }
  | _ => none }
def FnExactUnfoldProofWrongFalsely : Prop := fnExactUnfoldProofRow.holds Tryz.pinned (OpenSpec.ofChange fnExactUnfoldProofWrong)

/-- 'laws.FnExactCallInstances': WHATEVER THE INPUT: true; the input reads as it did. -/
def fnExactCallInstancesSpec : ChangeSpec := { name := "fnExactCallInstances", fn := fun _ => fun
  | [d1, d2, d3, d4] => { results := [.lit (.bool true)], args := [d1, d2, d3, d4] }
  | _ => none }
def fnExactCallInstancesRow : OpenClaim := { program := "ytdkmmcmnffflaaagreat", sum := "3206847776cc309444c8780e94bc8afce564c97b49b5af8f3e3055c312ba881c", func := "loop.example/g03210/laws.FnExactCallInstances", spec := "fnExactCallInstances", inPlace := ["internal/reflectlite.ValueOf", "internal/reflectlite.Swapper", "(internal/reflectlite.Value).Len"], unfollowed := true, recurses := true, loops := true, apart := false }
def FnExactCallInstancesSaid : Prop := fnExactCallInstancesRow.holds Tryz.pinned (OpenSpec.ofChange fnExactCallInstancesSpec)

/-- ITS FALSE NEIGHBOUR: 'it returns false'. Refute it at one input. -/
def fnExactCallInstancesWrong : ChangeSpec := { name := "fnExactCallInstances", fn := fun _ => fun
  | [d1, d2, d3, d4] => { results := [.lit (.bool false)], args := [d1, d2, d3, d4] }
  | _ => none }
def FnExactCallInstancesWrongFalsely : Prop := fnExactCallInstancesRow.holds Tryz.pinned (OpenSpec.ofChange fnExactCallInstancesWrong)

/- THE SECOND FORM. 'bulk': how many values and letters a reading holds, each counted each time it is reached (what is shared counts as often as it is met; a slice's spare places count too). A statement '..UptoSaid' is the law's where the arguments, and the package variables that the reading takes, are together of bulk at most 1048576: NARROWER than '..Said'. Prove '..Said' where nothing that the law and all that it calls make is longer than what came in: it says more and counts as full. Else prove '..UptoSaid'. A law counts once. -/
mutual
def uptoBulk {H : Type} : DataW H → Nat
  | .lit (.string bytes) => bytes.length + 1
  | .lit _ => 1
  | .nil => 1
  | .ptr d => uptoBulk d + 1
  | .slice elems spare => uptoBulkAll elems + uptoBulkAll spare + 1
  | .agg parts => uptoBulkAll parts + 1
  | .iface _ d => uptoBulk d + 1
  | .map entries => uptoBulkEntries entries + 1
  | .held _ => 1
def uptoBulkAll {H : Type} : List (DataW H) → Nat
  | [] => 0
  | d :: r => uptoBulk d + uptoBulkAll r
def uptoBulkEntries {H : Type} : List (Lit × DataW H) → Nat
  | [] => 0
  | x :: r => uptoBulkEntry x + uptoBulkEntries r
def uptoBulkEntry {H : Type} : Lit × DataW H → Nat
  | (.string bytes, d) => bytes.length + uptoBulk d + 1
  | (_, d) => uptoBulk d + 1
 end
def uptoSmall : (H : Type) → List (DataW H) → Bool := fun _ ds => decide (uptoBulkAll ds ≤ 1048576)
def OpenSpec.upto (s : _root_.Go.ChangeSpec) : _root_.Go.OpenSpec := { _root_.Go.OpenSpec.ofChange s with cond := some uptoSmall }

/-- 'laws.FnExactSimplifyGoal', WHERE WHAT IT READS IS OF BULK AT MOST 1048576: true; the input reads as it did. -/
def fnExactSimplifyGoalUptoRow : OpenClaim := { program := "ytdkmmcmnffflaaagreat", sum := "3206847776cc309444c8780e94bc8afce564c97b49b5af8f3e3055c312ba881c", func := "loop.example/g03210/laws.FnExactSimplifyGoal", spec := "fnExactSimplifyGoal", unfollowed := true, recurses := true, loops := true, apart := false, narrowed := true }
def FnExactSimplifyGoalUptoSaid : Prop := fnExactSimplifyGoalUptoRow.holds Tryz.pinned (OpenSpec.upto fnExactSimplifyGoalSpec)

/-- 'laws.FnExactSpecializeRel', WHERE WHAT IT READS IS OF BULK AT MOST 1048576: true; the input reads as it did. -/
def fnExactSpecializeRelUptoRow : OpenClaim := { program := "ytdkmmcmnffflaaagreat", sum := "3206847776cc309444c8780e94bc8afce564c97b49b5af8f3e3055c312ba881c", func := "loop.example/g03210/laws.FnExactSpecializeRel", spec := "fnExactSpecializeRel", unfollowed := true, recurses := true, loops := true, apart := false, narrowed := true }
def FnExactSpecializeRelUptoSaid : Prop := fnExactSpecializeRelUptoRow.holds Tryz.pinned (OpenSpec.upto fnExactSpecializeRelSpec)

/-- 'laws.FnExactUnfoldCall', WHERE WHAT IT READS IS OF BULK AT MOST 1048576: true; the input reads as it did. -/
def fnExactUnfoldCallUptoRow : OpenClaim := { program := "ytdkmmcmnffflaaagreat", sum := "3206847776cc309444c8780e94bc8afce564c97b49b5af8f3e3055c312ba881c", func := "loop.example/g03210/laws.FnExactUnfoldCall", spec := "fnExactUnfoldCall", unfollowed := true, recurses := true, loops := true, apart := false, narrowed := true }
def FnExactUnfoldCallUptoSaid : Prop := fnExactUnfoldCallUptoRow.holds Tryz.pinned (OpenSpec.upto fnExactUnfoldCallSpec)

/-- 'laws.FnExactSimplifyProgram', WHERE WHAT IT READS IS OF BULK AT MOST 1048576: true; the input reads as it did. -/
def fnExactSimplifyProgramUptoRow : OpenClaim := { program := "ytdkmmcmnffflaaagreat", sum := "3206847776cc309444c8780e94bc8afce564c97b49b5af8f3e3055c312ba881c", func := "loop.example/g03210/laws.FnExactSimplifyProgram", spec := "fnExactSimplifyProgram", unfollowed := true, recurses := true, loops := true, apart := false, narrowed := true }
def FnExactSimplifyProgramUptoSaid : Prop := fnExactSimplifyProgramUptoRow.holds Tryz.pinned (OpenSpec.upto fnExactSimplifyProgramSpec)

/-- 'laws.FnExactUnfoldProof', WHERE WHAT IT READS IS OF BULK AT MOST 1048576: true; the input reads as it did. -/
def fnExactUnfoldProofUptoRow : OpenClaim := { program := "ytdkmmcmnffflaaagreat", sum := "3206847776cc309444c8780e94bc8afce564c97b49b5af8f3e3055c312ba881c", func := "loop.example/g03210/laws.FnExactUnfoldProof", spec := "fnExactUnfoldProof", unfollowed := true, recurses := true, loops := true, apart := false, narrowed := true }
def FnExactUnfoldProofUptoSaid : Prop := fnExactUnfoldProofUptoRow.holds Tryz.pinned (OpenSpec.upto fnExactUnfoldProofSpec)

/-- 'laws.FnExactCallInstances', WHERE WHAT IT READS IS OF BULK AT MOST 1048576: true; the input reads as it did. -/
def fnExactCallInstancesUptoRow : OpenClaim := { program := "ytdkmmcmnffflaaagreat", sum := "3206847776cc309444c8780e94bc8afce564c97b49b5af8f3e3055c312ba881c", func := "loop.example/g03210/laws.FnExactCallInstances", spec := "fnExactCallInstances", inPlace := ["internal/reflectlite.ValueOf", "internal/reflectlite.Swapper", "(internal/reflectlite.Value).Len"], unfollowed := true, recurses := true, loops := true, apart := false, narrowed := true }
def FnExactCallInstancesUptoSaid : Prop := fnExactCallInstancesUptoRow.holds Tryz.pinned (OpenSpec.upto fnExactCallInstancesSpec)

end Rows
end Go.Proofs.YtdkmmcmnffflaaaGreat
