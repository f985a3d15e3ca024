/-
  NARROWER THAN 'FOR EVERY INPUT', by the rows' own cells (each row's printed sentence says how): FnExactCountGoals: loops · FnExactMinimalDisequalities: loops · FnExactComposeSubst: loops · FnExactRefreshKinds: loops · FnExactAddKind: loops · FnExactCodeOk: loops · FnExactRowsOk: loops.
  DERIVED. THE GIVEN ROWS OF THIS SEAT. 7 by the template 'for every input the law returns true; each argument reads behind the call as it read before'; 0 by the template 'total and deterministic' (their statements: YtepgghefbcklhaaTotals.lean).
  GIVEN WITH THE SEED: the statements are not yours to turn. If you find one false, say at which input.
  Laid BY PROGRAM, IN A SANDBOX (cutbox-rows.mjs): the forced cells as the released guide's own fill.sh prints them over the translation 1b0294de5283987e… (all of the seat's roots in one cut). By AI agents, Wed Nov 11 2026. No macro, syntax, notation, axiom, sorry.
-/
import Derived.Test.YtepgghefbcklhaaChecked
import GoSem.Claim
import GoSem.ClaimJoined
import GoSem.ClaimMapViews
import Derived.JoinedTies
import Derived.KernelRfl
namespace Go.Proofs.Ytepgghefbcklhaa
/- THE CELL 'sum', in the pinned program and in every row, IS THE sha256 OF THE DUMP (.gsa) THAT YtepgghefbcklhaaProg.lean LOADS. Nothing in Lean hashes anything: it is a label: what it is worth is what the hold of that sum in a sandbox is worth. -/
noncomputable def Try.pinned : Pinned := { name := "ytepgghefbcklhaa", sum := "1b0294de5283987e07b7844936a766f4fcbd18e6ea31825af3c8087b4590bcb1", checked := Try.checked }
namespace Rows
def none {H : Type} : Left H := { results := [], args := [] }

/-- 'laws.FnExactCountGoals': WHATEVER THE INPUT: true; the input reads as it did. -/
def fnExactCountGoalsSpec : ChangeSpec := { name := "fnExactCountGoals", fn := fun _ => fun
  | [d] => { results := [.lit (.bool true)], args := [d] }
  | _ => none }
def fnExactCountGoalsRow : OpenClaim := { program := "ytepgghefbcklhaa", sum := "1b0294de5283987e07b7844936a766f4fcbd18e6ea31825af3c8087b4590bcb1", func := "loop.example/g03210/laws.FnExactCountGoals", spec := "fnExactCountGoals", unfollowed := true, recurses := true, loops := true, apart := false }
def FnExactCountGoalsSaid : Prop := fnExactCountGoalsRow.holds Try.pinned (OpenSpec.ofChange fnExactCountGoalsSpec)

/-- ITS FALSE NEIGHBOUR: 'it returns false'. Refute it at one input. -/
def fnExactCountGoalsWrong : ChangeSpec := { name := "fnExactCountGoals", fn := fun _ => fun
  | [d] => { results := [.lit (.bool false)], args := [d] }
  | _ => none }
def FnExactCountGoalsWrongFalsely : Prop := fnExactCountGoalsRow.holds Try.pinned (OpenSpec.ofChange fnExactCountGoalsWrong)

/-- 'laws.FnExactMinimalDisequalities': WHATEVER THE INPUT: true; the input reads as it did. -/
def fnExactMinimalDisequalitiesSpec : ChangeSpec := { name := "fnExactMinimalDisequalities", fn := fun _ => fun
  | [d] => { results := [.lit (.bool true)], args := [d] }
  | _ => none }
def fnExactMinimalDisequalitiesRow : OpenClaim := { program := "ytepgghefbcklhaa", sum := "1b0294de5283987e07b7844936a766f4fcbd18e6ea31825af3c8087b4590bcb1", func := "loop.example/g03210/laws.FnExactMinimalDisequalities", spec := "fnExactMinimalDisequalities", inPlace := ["internal/reflectlite.ValueOf", "internal/reflectlite.Swapper", "(internal/reflectlite.Value).Len"], unfollowed := true, recurses := true, loops := true, apart := false }
def FnExactMinimalDisequalitiesSaid : Prop := fnExactMinimalDisequalitiesRow.holds Try.pinned (OpenSpec.ofChange fnExactMinimalDisequalitiesSpec)

/-- ITS FALSE NEIGHBOUR: 'it returns false'. Refute it at one input. -/
def fnExactMinimalDisequalitiesWrong : ChangeSpec := { name := "fnExactMinimalDisequalities", fn := fun _ => fun
  | [d] => { results := [.lit (.bool false)], args := [d] }
  | _ => none }
def FnExactMinimalDisequalitiesWrongFalsely : Prop := fnExactMinimalDisequalitiesRow.holds Try.pinned (OpenSpec.ofChange fnExactMinimalDisequalitiesWrong)

/-- 'laws.FnExactComposeSubst': WHATEVER THE INPUT: true; the input reads as it did. -/
def fnExactComposeSubstSpec : ChangeSpec := { name := "fnExactComposeSubst", fn := fun _ => fun
  | [d1, d2] => { results := [.lit (.bool true)], args := [d1, d2] }
  | _ => none }
def fnExactComposeSubstRow : OpenClaim := { program := "ytepgghefbcklhaa", sum := "1b0294de5283987e07b7844936a766f4fcbd18e6ea31825af3c8087b4590bcb1", func := "loop.example/g03210/laws.FnExactComposeSubst", spec := "fnExactComposeSubst", inPlace := ["internal/reflectlite.ValueOf", "internal/reflectlite.Swapper", "(internal/reflectlite.Value).Len"], unfollowed := true, recurses := true, loops := true, apart := false }
def FnExactComposeSubstSaid : Prop := fnExactComposeSubstRow.holds Try.pinned (OpenSpec.ofChange fnExactComposeSubstSpec)

/-- ITS FALSE NEIGHBOUR: 'it returns false'. Refute it at one input. -/
def fnExactComposeSubstWrong : ChangeSpec := { name := "fnExactComposeSubst", fn := fun _ => fun
  | [d1, d2] => { results := [.lit (.bool false)], args := [d1, d2] }
  | _ => none }
def FnExactComposeSubstWrongFalsely : Prop := fnExactComposeSubstRow.holds Try.pinned (OpenSpec.ofChange fnExactComposeSubstWrong)

/-- 'laws.FnExactRefreshKinds': WHATEVER THE INPUT: true; the input reads as it did. -/
def fnExactRefreshKindsSpec : ChangeSpec := { name := "fnExactRefreshKinds", fn := fun _ => fun
  | [d1, d2] => { results := [.lit (.bool true)], args := [d1, d2] }
  | _ => none }
def fnExactRefreshKindsRow : OpenClaim := { program := "ytepgghefbcklhaa", sum := "1b0294de5283987e07b7844936a766f4fcbd18e6ea31825af3c8087b4590bcb1", func := "loop.example/g03210/laws.FnExactRefreshKinds", spec := "fnExactRefreshKinds", inPlace := ["internal/reflectlite.ValueOf", "internal/reflectlite.Swapper", "(internal/reflectlite.Value).Len"], unfollowed := true, recurses := true, loops := true, apart := false }
def FnExactRefreshKindsSaid : Prop := fnExactRefreshKindsRow.holds Try.pinned (OpenSpec.ofChange fnExactRefreshKindsSpec)

/-- ITS FALSE NEIGHBOUR: 'it returns false'. Refute it at one input. -/
def fnExactRefreshKindsWrong : ChangeSpec := { name := "fnExactRefreshKinds", fn := fun _ => fun
  | [d1, d2] => { results := [.lit (.bool false)], args := [d1, d2] }
  | _ => none }
def FnExactRefreshKindsWrongFalsely : Prop := fnExactRefreshKindsRow.holds Try.pinned (OpenSpec.ofChange fnExactRefreshKindsWrong)

/-- 'laws.FnExactAddKind': WHATEVER THE INPUT: true; the input reads as it did. -/
def fnExactAddKindSpec : ChangeSpec := { name := "fnExactAddKind", fn := fun _ => fun
  | [d1, d2, d3, d4] => { results := [.lit (.bool true)], args := [d1, d2, d3, d4] }
  | _ => none }
def fnExactAddKindRow : OpenClaim := { program := "ytepgghefbcklhaa", sum := "1b0294de5283987e07b7844936a766f4fcbd18e6ea31825af3c8087b4590bcb1", func := "loop.example/g03210/laws.FnExactAddKind", spec := "fnExactAddKind", inPlace := ["internal/reflectlite.ValueOf", "internal/reflectlite.Swapper", "(internal/reflectlite.Value).Len"], unfollowed := true, recurses := true, loops := true, apart := false }
def FnExactAddKindSaid : Prop := fnExactAddKindRow.holds Try.pinned (OpenSpec.ofChange fnExactAddKindSpec)

/-- ITS FALSE NEIGHBOUR: 'it returns false'. Refute it at one input. -/
def fnExactAddKindWrong : ChangeSpec := { name := "fnExactAddKind", fn := fun _ => fun
  | [d1, d2, d3, d4] => { results := [.lit (.bool false)], args := [d1, d2, d3, d4] }
  | _ => none }
def FnExactAddKindWrongFalsely : Prop := fnExactAddKindRow.holds Try.pinned (OpenSpec.ofChange fnExactAddKindWrong)

/-- 'laws.FnExactCodeOk': WHATEVER THE INPUT: true; the input reads as it did. -/
def fnExactCodeOkSpec : ChangeSpec := { name := "fnExactCodeOk", fn := fun _ => fun
  | [d] => { results := [.lit (.bool true)], args := [d] }
  | _ => none }
def fnExactCodeOkRow : OpenClaim := { program := "ytepgghefbcklhaa", sum := "1b0294de5283987e07b7844936a766f4fcbd18e6ea31825af3c8087b4590bcb1", func := "loop.example/g03210/laws.FnExactCodeOk", spec := "fnExactCodeOk", unfollowed := true, recurses := true, loops := true, apart := false }
def FnExactCodeOkSaid : Prop := fnExactCodeOkRow.holds Try.pinned (OpenSpec.ofChange fnExactCodeOkSpec)

/-- ITS FALSE NEIGHBOUR: 'it returns false'. Refute it at one input. -/
def fnExactCodeOkWrong : ChangeSpec := { name := "fnExactCodeOk", fn := fun _ => fun
  | [d] => { results := [.lit (.bool false)], args := [d] }
  | _ => none }
def FnExactCodeOkWrongFalsely : Prop := fnExactCodeOkRow.holds Try.pinned (OpenSpec.ofChange fnExactCodeOkWrong)

/-- 'laws.FnExactRowsOk': WHATEVER THE INPUT: true; the input reads as it did. -/
def fnExactRowsOkSpec : ChangeSpec := { name := "fnExactRowsOk", fn := fun _ => fun
  | [d1, d2] => { results := [.lit (.bool true)], args := [d1, d2] }
  | _ => none }
def fnExactRowsOkRow : OpenClaim := { program := "ytepgghefbcklhaa", sum := "1b0294de5283987e07b7844936a766f4fcbd18e6ea31825af3c8087b4590bcb1", func := "loop.example/g03210/laws.FnExactRowsOk", spec := "fnExactRowsOk", unfollowed := true, recurses := true, loops := true, apart := false }
def FnExactRowsOkSaid : Prop := fnExactRowsOkRow.holds Try.pinned (OpenSpec.ofChange fnExactRowsOkSpec)

/-- ITS FALSE NEIGHBOUR: 'it returns false'. Refute it at one input. -/
def fnExactRowsOkWrong : ChangeSpec := { name := "fnExactRowsOk", fn := fun _ => fun
  | [d1, d2] => { results := [.lit (.bool false)], args := [d1, d2] }
  | _ => none }
def FnExactRowsOkWrongFalsely : Prop := fnExactRowsOkRow.holds Try.pinned (OpenSpec.ofChange fnExactRowsOkWrong)

/- THE SECOND FORM. 'bulk': how many values and letters a reading holds, each counted each time it is reached (what is shared counts as often as it is met; a slice's spare places count too). A statement '..UptoSaid' is the law's where the arguments, and the package variables that the reading takes, are together of bulk at most 1048576: NARROWER than '..Said'. Prove '..Said' where nothing that the law and all that it calls make is longer than what came in: it says more and counts as full. Else prove '..UptoSaid'. A law counts once. -/
mutual
def uptoBulk {H : Type} : DataW H → Nat
  | .lit (.string bytes) => bytes.length + 1
  | .lit _ => 1
  | .nil => 1
  | .ptr d => uptoBulk d + 1
  | .slice elems spare => uptoBulkAll elems + uptoBulkAll spare + 1
  | .agg parts => uptoBulkAll parts + 1
  | .iface _ d => uptoBulk d + 1
  | .map entries => uptoBulkEntries entries + 1
  | .held _ => 1
def uptoBulkAll {H : Type} : List (DataW H) → Nat
  | [] => 0
  | d :: r => uptoBulk d + uptoBulkAll r
def uptoBulkEntries {H : Type} : List (Lit × DataW H) → Nat
  | [] => 0
  | x :: r => uptoBulkEntry x + uptoBulkEntries r
def uptoBulkEntry {H : Type} : Lit × DataW H → Nat
  | (.string bytes, d) => bytes.length + uptoBulk d + 1
  | (_, d) => uptoBulk d + 1
 end
def uptoSmall : (H : Type) → List (DataW H) → Bool := fun _ ds => decide (uptoBulkAll ds ≤ 1048576)
def OpenSpec.upto (s : _root_.Go.ChangeSpec) : _root_.Go.OpenSpec := { _root_.Go.OpenSpec.ofChange s with cond := some uptoSmall }

/-- 'laws.FnExactCountGoals', WHERE WHAT IT READS IS OF BULK AT MOST 1048576: true; the input reads as it did. -/
def fnExactCountGoalsUptoRow : OpenClaim := { program := "ytepgghefbcklhaa", sum := "1b0294de5283987e07b7844936a766f4fcbd18e6ea31825af3c8087b4590bcb1", func := "loop.example/g03210/laws.FnExactCountGoals", spec := "fnExactCountGoals", unfollowed := true, recurses := true, loops := true, apart := false, narrowed := true }
def FnExactCountGoalsUptoSaid : Prop := fnExactCountGoalsUptoRow.holds Try.pinned (OpenSpec.upto fnExactCountGoalsSpec)

/-- 'laws.FnExactMinimalDisequalities', WHERE WHAT IT READS IS OF BULK AT MOST 1048576: true; the input reads as it did. -/
def fnExactMinimalDisequalitiesUptoRow : OpenClaim := { program := "ytepgghefbcklhaa", sum := "1b0294de5283987e07b7844936a766f4fcbd18e6ea31825af3c8087b4590bcb1", func := "loop.example/g03210/laws.FnExactMinimalDisequalities", spec := "fnExactMinimalDisequalities", inPlace := ["internal/reflectlite.ValueOf", "internal/reflectlite.Swapper", "(internal/reflectlite.Value).Len"], unfollowed := true, recurses := true, loops := true, apart := false, narrowed := true }
def FnExactMinimalDisequalitiesUptoSaid : Prop := fnExactMinimalDisequalitiesUptoRow.holds Try.pinned (OpenSpec.upto fnExactMinimalDisequalitiesSpec)

/-- 'laws.FnExactComposeSubst', WHERE WHAT IT READS IS OF BULK AT MOST 1048576: true; the input reads as it did. -/
def fnExactComposeSubstUptoRow : OpenClaim := { program := "ytepgghefbcklhaa", sum := "1b0294de5283987e07b7844936a766f4fcbd18e6ea31825af3c8087b4590bcb1", func := "loop.example/g03210/laws.FnExactComposeSubst", spec := "fnExactComposeSubst", inPlace := ["internal/reflectlite.ValueOf", "internal/reflectlite.Swapper", "(internal/reflectlite.Value).Len"], unfollowed := true, recurses := true, loops := true, apart := false, narrowed := true }
def FnExactComposeSubstUptoSaid : Prop := fnExactComposeSubstUptoRow.holds Try.pinned (OpenSpec.upto fnExactComposeSubstSpec)

/-- 'laws.FnExactRefreshKinds', WHERE WHAT IT READS IS OF BULK AT MOST 1048576: true; the input reads as it did. -/
def fnExactRefreshKindsUptoRow : OpenClaim := { program := "ytepgghefbcklhaa", sum := "1b0294de5283987e07b7844936a766f4fcbd18e6ea31825af3c8087b4590bcb1", func := "loop.example/g03210/laws.FnExactRefreshKinds", spec := "fnExactRefreshKinds", inPlace := ["internal/reflectlite.ValueOf", "internal/reflectlite.Swapper", "(internal/reflectlite.Value).Len"], unfollowed := true, recurses := true, loops := true, apart := false, narrowed := true }
def FnExactRefreshKindsUptoSaid : Prop := fnExactRefreshKindsUptoRow.holds Try.pinned (OpenSpec.upto fnExactRefreshKindsSpec)

/-- 'laws.FnExactAddKind', WHERE WHAT IT READS IS OF BULK AT MOST 1048576: true; the input reads as it did. -/
def fnExactAddKindUptoRow : OpenClaim := { program := "ytepgghefbcklhaa", sum := "1b0294de5283987e07b7844936a766f4fcbd18e6ea31825af3c8087b4590bcb1", func := "loop.example/g03210/laws.FnExactAddKind", spec := "fnExactAddKind", inPlace := ["internal/reflectlite.ValueOf", "internal/reflectlite.Swapper", "(internal/reflectlite.Value).Len"], unfollowed := true, recurses := true, loops := true, apart := false, narrowed := true }
def FnExactAddKindUptoSaid : Prop := fnExactAddKindUptoRow.holds Try.pinned (OpenSpec.upto fnExactAddKindSpec)

/-- 'laws.FnExactCodeOk', WHERE WHAT IT READS IS OF BULK AT MOST 1048576: true; the input reads as it did. -/
def fnExactCodeOkUptoRow : OpenClaim := { program := "ytepgghefbcklhaa", sum := "1b0294de5283987e07b7844936a766f4fcbd18e6ea31825af3c8087b4590bcb1", func := "loop.example/g03210/laws.FnExactCodeOk", spec := "fnExactCodeOk", unfollowed := true, recurses := true, loops := true, apart := false, narrowed := true }
def FnExactCodeOkUptoSaid : Prop := fnExactCodeOkUptoRow.holds Try.pinned (OpenSpec.upto fnExactCodeOkSpec)

/-- 'laws.FnExactRowsOk', WHERE WHAT IT READS IS OF BULK AT MOST 1048576: true; the input reads as it did. -/
def fnExactRowsOkUptoRow : OpenClaim := { program := "ytepgghefbcklhaa", sum := "1b0294de5283987e07b7844936a766f4fcbd18e6ea31825af3c8087b4590bcb1", func := "loop.example/g03210/laws.FnExactRowsOk", spec := "fnExactRowsOk", unfollowed := true, recurses := true, loops := true, apart := false, narrowed := true }
def FnExactRowsOkUptoSaid : Prop := fnExactRowsOkUptoRow.holds Try.pinned (OpenSpec.upto fnExactRowsOkSpec)

end Rows
end Go.Proofs.Ytepgghefbcklhaa
