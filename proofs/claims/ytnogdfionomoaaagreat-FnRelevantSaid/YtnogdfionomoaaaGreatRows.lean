/-
  No cell of these rows narrows 'for every input' (looked for: loops, veiled, ifaces, maps, wideKeys, modest, calm, conditions, laid).
  DERIVED. THE GIVEN ROWS OF THIS SEAT. 8 by the template 'for every input the law returns true; each argument reads behind the call as it read before'; 0 by the template 'total and deterministic' (their statements: YtnogdfionomoaaaGreatTotals.lean).
  GIVEN WITH THE SEED: the statements are not yours to turn. If you find one false, say at which input.
  Laid BY PROGRAM, IN A SANDBOX (cutbox-rows.mjs): the forced cells as the released guide's own fill.sh prints them over the translation 63d7a78baf5549bf… (all of the seat's roots in one cut). By AI agents, Wed Nov 11 2026. No macro, syntax, notation, axiom, sorry.
-/
import Derived.Test.YtnogdfionomoaaaGreatChecked
import GoSem.Claim
import GoSem.ClaimJoined
import GoSem.ClaimMapViews
import Derived.JoinedTies
import Derived.KernelRfl
namespace Go.Proofs.YtnogdfionomoaaaGreat
/- THE CELL 'sum', in the pinned program and in every row, IS THE sha256 OF THE DUMP (.gsa) THAT YtnogdfionomoaaaGreatProg.lean LOADS. Nothing in Lean hashes anything: it is a label: what it is worth is what the hold of that sum in a sandbox is worth. -/
noncomputable def Tryz.pinned : Pinned := { name := "ytnogdfionomoaaagreat", sum := "63d7a78baf5549bf26691635189fa513ccb8071e9872e97d92b71d7163e6d3d4", checked := Tryz.checked }
namespace Rows
def none {H : Type} : Left H := { results := [], args := [] }

/-- 'laws.FnLeast': WHATEVER THE INPUT: true; the input reads as it did. -/
def fnLeastSpec : ChangeSpec := { name := "fnLeast", fn := fun _ => fun
  | [d] => { results := [.lit (.bool true)], args := [d] }
  | _ => none }
def fnLeastRow : OpenClaim := { program := "ytnogdfionomoaaagreat", sum := "63d7a78baf5549bf26691635189fa513ccb8071e9872e97d92b71d7163e6d3d4", func := "loop.example/g03210/laws.FnLeast", spec := "fnLeast", inPlace := ["internal/reflectlite.ValueOf", "internal/reflectlite.Swapper", "(internal/reflectlite.Value).Len"], unfollowed := true, recurses := true, apart := false }
def FnLeastSaid : Prop := fnLeastRow.holds Tryz.pinned (OpenSpec.ofChange fnLeastSpec)

/-- ITS FALSE NEIGHBOUR: 'it returns false'. Refute it at one input. -/
def fnLeastWrong : ChangeSpec := { name := "fnLeast", fn := fun _ => fun
  | [d] => { results := [.lit (.bool false)], args := [d] }
  | _ => none }
def FnLeastWrongFalsely : Prop := fnLeastRow.holds Tryz.pinned (OpenSpec.ofChange fnLeastWrong)

/-- 'laws.FnWellFounded': WHATEVER THE INPUT: true; the input reads as it did. -/
def fnWellFoundedSpec : ChangeSpec := { name := "fnWellFounded", fn := fun _ => fun
  | [d] => { results := [.lit (.bool true)], args := [d] }
  | _ => none }
def fnWellFoundedRow : OpenClaim := { program := "ytnogdfionomoaaagreat", sum := "63d7a78baf5549bf26691635189fa513ccb8071e9872e97d92b71d7163e6d3d4", func := "loop.example/g03210/laws.FnWellFounded", spec := "fnWellFounded", inPlace := ["internal/reflectlite.ValueOf", "internal/reflectlite.Swapper", "(internal/reflectlite.Value).Len"], unfollowed := true, recurses := true, apart := false }
def FnWellFoundedSaid : Prop := fnWellFoundedRow.holds Tryz.pinned (OpenSpec.ofChange fnWellFoundedSpec)

/-- ITS FALSE NEIGHBOUR: 'it returns false'. Refute it at one input. -/
def fnWellFoundedWrong : ChangeSpec := { name := "fnWellFounded", fn := fun _ => fun
  | [d] => { results := [.lit (.bool false)], args := [d] }
  | _ => none }
def FnWellFoundedWrongFalsely : Prop := fnWellFoundedRow.holds Tryz.pinned (OpenSpec.ofChange fnWellFoundedWrong)

/-- 'laws.FnUpdates': WHATEVER THE INPUT: true; the input reads as it did. -/
def fnUpdatesSpec : ChangeSpec := { name := "fnUpdates", fn := fun _ => fun
  | [d] => { results := [.lit (.bool true)], args := [d] }
  | _ => none }
def fnUpdatesRow : OpenClaim := { program := "ytnogdfionomoaaagreat", sum := "63d7a78baf5549bf26691635189fa513ccb8071e9872e97d92b71d7163e6d3d4", func := "loop.example/g03210/laws.FnUpdates", spec := "fnUpdates", inPlace := ["internal/reflectlite.ValueOf", "internal/reflectlite.Swapper", "(internal/reflectlite.Value).Len"], unfollowed := true, recurses := true, apart := false }
def FnUpdatesSaid : Prop := fnUpdatesRow.holds Tryz.pinned (OpenSpec.ofChange fnUpdatesSpec)

/-- ITS FALSE NEIGHBOUR: 'it returns false'. Refute it at one input. -/
def fnUpdatesWrong : ChangeSpec := { name := "fnUpdates", fn := fun _ => fun
  | [d] => { results := [.lit (.bool false)], args := [d] }
  | _ => none }
def FnUpdatesWrongFalsely : Prop := fnUpdatesRow.holds Tryz.pinned (OpenSpec.ofChange fnUpdatesWrong)

/-- 'laws.FnStrata': WHATEVER THE INPUT: true; the input reads as it did. -/
def fnStrataSpec : ChangeSpec := { name := "fnStrata", fn := fun _ => fun
  | [d] => { results := [.lit (.bool true)], args := [d] }
  | _ => none }
def fnStrataRow : OpenClaim := { program := "ytnogdfionomoaaagreat", sum := "63d7a78baf5549bf26691635189fa513ccb8071e9872e97d92b71d7163e6d3d4", func := "loop.example/g03210/laws.FnStrata", spec := "fnStrata", inPlace := ["internal/reflectlite.ValueOf", "internal/reflectlite.Swapper", "(internal/reflectlite.Value).Len"], unfollowed := true, recurses := true, apart := false }
def FnStrataSaid : Prop := fnStrataRow.holds Tryz.pinned (OpenSpec.ofChange fnStrataSpec)

/-- ITS FALSE NEIGHBOUR: 'it returns false'. Refute it at one input. -/
def fnStrataWrong : ChangeSpec := { name := "fnStrata", fn := fun _ => fun
  | [d] => { results := [.lit (.bool false)], args := [d] }
  | _ => none }
def FnStrataWrongFalsely : Prop := fnStrataRow.holds Tryz.pinned (OpenSpec.ofChange fnStrataWrong)

/-- 'laws.FnRelevant': WHATEVER THE INPUT: true; the input reads as it did. -/
def fnRelevantSpec : ChangeSpec := { name := "fnRelevant", fn := fun _ => fun
  | [d] => { results := [.lit (.bool true)], args := [d] }
  | _ => none }
def fnRelevantRow : OpenClaim := { program := "ytnogdfionomoaaagreat", sum := "63d7a78baf5549bf26691635189fa513ccb8071e9872e97d92b71d7163e6d3d4", func := "loop.example/g03210/laws.FnRelevant", spec := "fnRelevant", inPlace := ["internal/reflectlite.ValueOf", "internal/reflectlite.Swapper", "(internal/reflectlite.Value).Len"], unfollowed := true, recurses := true, apart := false }
def FnRelevantSaid : Prop := fnRelevantRow.holds Tryz.pinned (OpenSpec.ofChange fnRelevantSpec)

/-- ITS FALSE NEIGHBOUR: 'it returns false'. Refute it at one input. -/
def fnRelevantWrong : ChangeSpec := { name := "fnRelevant", fn := fun _ => fun
  | [d] => { results := [.lit (.bool false)], args := [d] }
  | _ => none }
def FnRelevantWrongFalsely : Prop := fnRelevantRow.holds Tryz.pinned (OpenSpec.ofChange fnRelevantWrong)

/-- 'laws.FnUnfold': WHATEVER THE INPUT: true; the input reads as it did. -/
def fnUnfoldSpec : ChangeSpec := { name := "fnUnfold", fn := fun _ => fun
  | [d] => { results := [.lit (.bool true)], args := [d] }
  | _ => none }
def fnUnfoldRow : OpenClaim := { program := "ytnogdfionomoaaagreat", sum := "63d7a78baf5549bf26691635189fa513ccb8071e9872e97d92b71d7163e6d3d4", func := "loop.example/g03210/laws.FnUnfold", spec := "fnUnfold", inPlace := ["internal/reflectlite.ValueOf", "internal/reflectlite.Swapper", "(internal/reflectlite.Value).Len"], unfollowed := true, recurses := true, apart := false }
def FnUnfoldSaid : Prop := fnUnfoldRow.holds Tryz.pinned (OpenSpec.ofChange fnUnfoldSpec)

/-- ITS FALSE NEIGHBOUR: 'it returns false'. Refute it at one input. -/
def fnUnfoldWrong : ChangeSpec := { name := "fnUnfold", fn := fun _ => fun
  | [d] => { results := [.lit (.bool false)], args := [d] }
  | _ => none }
def FnUnfoldWrongFalsely : Prop := fnUnfoldRow.holds Tryz.pinned (OpenSpec.ofChange fnUnfoldWrong)

/-- 'laws.FnUnfoldProof': WHATEVER THE INPUT: true; the input reads as it did. -/
def fnUnfoldProofSpec : ChangeSpec := { name := "fnUnfoldProof", fn := fun _ => fun
  | [d] => { results := [.lit (.bool true)], args := [d] }
  | _ => none }
def fnUnfoldProofRow : OpenClaim := { program := "ytnogdfionomoaaagreat", sum := "63d7a78baf5549bf26691635189fa513ccb8071e9872e97d92b71d7163e6d3d4", func := "loop.example/g03210/laws.FnUnfoldProof", spec := "fnUnfoldProof", unfollowed := true, recurses := true, apart := false }
def FnUnfoldProofSaid : Prop := fnUnfoldProofRow.holds Tryz.pinned (OpenSpec.ofChange fnUnfoldProofSpec)

/-- ITS FALSE NEIGHBOUR: 'it returns false'. Refute it at one input. -/
def fnUnfoldProofWrong : ChangeSpec := { name := "fnUnfoldProof", fn := fun _ => fun
  | [d] => { results := [.lit (.bool false)], args := [d] }
  | _ => none }
def FnUnfoldProofWrongFalsely : Prop := fnUnfoldProofRow.holds Tryz.pinned (OpenSpec.ofChange fnUnfoldProofWrong)

/-- 'laws.FnSpecialize': WHATEVER THE INPUT: true; the input reads as it did. -/
def fnSpecializeSpec : ChangeSpec := { name := "fnSpecialize", fn := fun _ => fun
  | [d] => { results := [.lit (.bool true)], args := [d] }
  | _ => none }
def fnSpecializeRow : OpenClaim := { program := "ytnogdfionomoaaagreat", sum := "63d7a78baf5549bf26691635189fa513ccb8071e9872e97d92b71d7163e6d3d4", func := "loop.example/g03210/laws.FnSpecialize", spec := "fnSpecialize", inPlace := ["internal/reflectlite.ValueOf", "internal/reflectlite.Swapper", "(internal/reflectlite.Value).Len"], unfollowed := true, recurses := true, apart := false }
def FnSpecializeSaid : Prop := fnSpecializeRow.holds Tryz.pinned (OpenSpec.ofChange fnSpecializeSpec)

/-- ITS FALSE NEIGHBOUR: 'it returns false'. Refute it at one input. -/
def fnSpecializeWrong : ChangeSpec := { name := "fnSpecialize", fn := fun _ => fun
  | [d] => { results := [.lit (.bool false)], args := [d] }
  | _ => none }
def FnSpecializeWrongFalsely : Prop := fnSpecializeRow.holds Tryz.pinned (OpenSpec.ofChange fnSpecializeWrong)

/- THE SECOND FORM. 'bulk': how many values and letters a reading holds, each counted each time it is reached (what is shared counts as often as it is met; a slice's spare places count too). A statement '..UptoSaid' is the law's where the arguments, and the package variables that the reading takes, are together of bulk at most 1048576: NARROWER than '..Said'. Prove '..Said' where nothing that the law and all that it calls make is longer than what came in: it says more and counts as full. Else prove '..UptoSaid'. A law counts once. -/
mutual
def uptoBulk {H : Type} : DataW H → Nat
  | .lit (.string bytes) => bytes.length + 1
  | .lit _ => 1
  | .nil => 1
  | .ptr d => uptoBulk d + 1
  | .slice elems spare => uptoBulkAll elems + uptoBulkAll spare + 1
  | .agg parts => uptoBulkAll parts + 1
  | .iface _ d => uptoBulk d + 1
  | .map entries => uptoBulkEntries entries + 1
  | .held _ => 1
def uptoBulkAll {H : Type} : List (DataW H) → Nat
  | [] => 0
  | d :: r => uptoBulk d + uptoBulkAll r
def uptoBulkEntries {H : Type} : List (Lit × DataW H) → Nat
  | [] => 0
  | x :: r => uptoBulkEntry x + uptoBulkEntries r
def uptoBulkEntry {H : Type} : Lit × DataW H → Nat
  | (.string bytes, d) => bytes.length + uptoBulk d + 1
  | (_, d) => uptoBulk d + 1
 end
def uptoSmall : (H : Type) → List (DataW H) → Bool := fun _ ds => decide (uptoBulkAll ds ≤ 1048576)
def OpenSpec.upto (s : _root_.Go.ChangeSpec) : _root_.Go.OpenSpec := { _root_.Go.OpenSpec.ofChange s with cond := some uptoSmall }

/-- 'laws.FnLeast', WHERE WHAT IT READS IS OF BULK AT MOST 1048576: true; the input reads as it did. -/
def fnLeastUptoRow : OpenClaim := { program := "ytnogdfionomoaaagreat", sum := "63d7a78baf5549bf26691635189fa513ccb8071e9872e97d92b71d7163e6d3d4", func := "loop.example/g03210/laws.FnLeast", spec := "fnLeast", inPlace := ["internal/reflectlite.ValueOf", "internal/reflectlite.Swapper", "(internal/reflectlite.Value).Len"], unfollowed := true, recurses := true, apart := false, narrowed := true }
def FnLeastUptoSaid : Prop := fnLeastUptoRow.holds Tryz.pinned (OpenSpec.upto fnLeastSpec)

/-- 'laws.FnWellFounded', WHERE WHAT IT READS IS OF BULK AT MOST 1048576: true; the input reads as it did. -/
def fnWellFoundedUptoRow : OpenClaim := { program := "ytnogdfionomoaaagreat", sum := "63d7a78baf5549bf26691635189fa513ccb8071e9872e97d92b71d7163e6d3d4", func := "loop.example/g03210/laws.FnWellFounded", spec := "fnWellFounded", inPlace := ["internal/reflectlite.ValueOf", "internal/reflectlite.Swapper", "(internal/reflectlite.Value).Len"], unfollowed := true, recurses := true, apart := false, narrowed := true }
def FnWellFoundedUptoSaid : Prop := fnWellFoundedUptoRow.holds Tryz.pinned (OpenSpec.upto fnWellFoundedSpec)

/-- 'laws.FnUpdates', WHERE WHAT IT READS IS OF BULK AT MOST 1048576: true; the input reads as it did. -/
def fnUpdatesUptoRow : OpenClaim := { program := "ytnogdfionomoaaagreat", sum := "63d7a78baf5549bf26691635189fa513ccb8071e9872e97d92b71d7163e6d3d4", func := "loop.example/g03210/laws.FnUpdates", spec := "fnUpdates", inPlace := ["internal/reflectlite.ValueOf", "internal/reflectlite.Swapper", "(internal/reflectlite.Value).Len"], unfollowed := true, recurses := true, apart := false, narrowed := true }
def FnUpdatesUptoSaid : Prop := fnUpdatesUptoRow.holds Tryz.pinned (OpenSpec.upto fnUpdatesSpec)

/-- 'laws.FnStrata', WHERE WHAT IT READS IS OF BULK AT MOST 1048576: true; the input reads as it did. -/
def fnStrataUptoRow : OpenClaim := { program := "ytnogdfionomoaaagreat", sum := "63d7a78baf5549bf26691635189fa513ccb8071e9872e97d92b71d7163e6d3d4", func := "loop.example/g03210/laws.FnStrata", spec := "fnStrata", inPlace := ["internal/reflectlite.ValueOf", "internal/reflectlite.Swapper", "(internal/reflectlite.Value).Len"], unfollowed := true, recurses := true, apart := false, narrowed := true }
def FnStrataUptoSaid : Prop := fnStrataUptoRow.holds Tryz.pinned (OpenSpec.upto fnStrataSpec)

/-- 'laws.FnRelevant', WHERE WHAT IT READS IS OF BULK AT MOST 1048576: true; the input reads as it did. -/
def fnRelevantUptoRow : OpenClaim := { program := "ytnogdfionomoaaagreat", sum := "63d7a78baf5549bf26691635189fa513ccb8071e9872e97d92b71d7163e6d3d4", func := "loop.example/g03210/laws.FnRelevant", spec := "fnRelevant", inPlace := ["internal/reflectlite.ValueOf", "internal/reflectlite.Swapper", "(internal/reflectlite.Value).Len"], unfollowed := true, recurses := true, apart := false, narrowed := true }
def FnRelevantUptoSaid : Prop := fnRelevantUptoRow.holds Tryz.pinned (OpenSpec.upto fnRelevantSpec)

/-- 'laws.FnUnfold', WHERE WHAT IT READS IS OF BULK AT MOST 1048576: true; the input reads as it did. -/
def fnUnfoldUptoRow : OpenClaim := { program := "ytnogdfionomoaaagreat", sum := "63d7a78baf5549bf26691635189fa513ccb8071e9872e97d92b71d7163e6d3d4", func := "loop.example/g03210/laws.FnUnfold", spec := "fnUnfold", inPlace := ["internal/reflectlite.ValueOf", "internal/reflectlite.Swapper", "(internal/reflectlite.Value).Len"], unfollowed := true, recurses := true, apart := false, narrowed := true }
def FnUnfoldUptoSaid : Prop := fnUnfoldUptoRow.holds Tryz.pinned (OpenSpec.upto fnUnfoldSpec)

/-- 'laws.FnUnfoldProof', WHERE WHAT IT READS IS OF BULK AT MOST 1048576: true; the input reads as it did. -/
def fnUnfoldProofUptoRow : OpenClaim := { program := "ytnogdfionomoaaagreat", sum := "63d7a78baf5549bf26691635189fa513ccb8071e9872e97d92b71d7163e6d3d4", func := "loop.example/g03210/laws.FnUnfoldProof", spec := "fnUnfoldProof", unfollowed := true, recurses := true, apart := false, narrowed := true }
def FnUnfoldProofUptoSaid : Prop := fnUnfoldProofUptoRow.holds Tryz.pinned (OpenSpec.upto fnUnfoldProofSpec)

/-- 'laws.FnSpecialize', WHERE WHAT IT READS IS OF BULK AT MOST 1048576: true; the input reads as it did. -/
def fnSpecializeUptoRow : OpenClaim := { program := "ytnogdfionomoaaagreat", sum := "63d7a78baf5549bf26691635189fa513ccb8071e9872e97d92b71d7163e6d3d4", func := "loop.example/g03210/laws.FnSpecialize", spec := "fnSpecialize", inPlace := ["internal/reflectlite.ValueOf", "internal/reflectlite.Swapper", "(internal/reflectlite.Value).Len"], unfollowed := true, recurses := true, apart := false, narrowed := true }
def FnSpecializeUptoSaid : Prop := fnSpecializeUptoRow.holds Tryz.pinned (OpenSpec.upto fnSpecializeSpec)

end Rows
end Go.Proofs.YtnogdfionomoaaaGreat
