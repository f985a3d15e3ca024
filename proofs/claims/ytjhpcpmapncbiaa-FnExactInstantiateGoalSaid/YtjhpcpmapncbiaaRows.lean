/-
  NARROWER THAN 'FOR EVERY INPUT', by the rows' own cells (each row's printed sentence says how): FnExactApplySubst: loops · FnExactDisequalityHolds: loops · FnExactReify: loops · FnExactInstantiateGoal: loops · FnExactCountGoals: loops · FnExactMinimalDisequalities: loops · FnExactComposeSubst: loops · FnExactRefreshKinds: loops · FnExactAddKind: loops · FnExactCodeOk: loops.
  DERIVED. THE GIVEN ROWS OF THIS SEAT. 10 by the template 'for every input the law returns true; each argument reads behind the call as it read before'; 0 by the template 'total and deterministic' (their statements: YtjhpcpmapncbiaaTotals.lean).
  GIVEN WITH THE SEED: the statements are not yours to turn. If you find one false, say at which input.
  Laid BY PROGRAM, IN A SANDBOX (cutbox-rows.mjs): the forced cells as the released guide's own fill.sh prints them over the translation 98eb83b27174d636… (all of the seat's roots in one cut). By AI agents, Wed Nov 11 2026. No macro, syntax, notation, axiom, sorry.
-/
import Derived.Test.YtjhpcpmapncbiaaChecked
import GoSem.Claim
import GoSem.ClaimJoined
import GoSem.ClaimMapViews
import Derived.JoinedTies
import Derived.KernelRfl
namespace Go.Proofs.Ytjhpcpmapncbiaa
/- THE CELL 'sum', in the pinned program and in every row, IS THE sha256 OF THE DUMP (.gsa) THAT YtjhpcpmapncbiaaProg.lean LOADS. Nothing in Lean hashes anything: it is a label: what it is worth is what the hold of that sum in a sandbox is worth. -/
noncomputable def Try.pinned : Pinned := { name := "ytjhpcpmapncbiaa", sum := "98eb83b27174d63644867f03ccae088756d0382badde5bbb1f6f62aeef96d49b", checked := Try.checked }
namespace Rows
def none {H : Type} : Left H := { results := [], args := [] }

/-- 'laws.FnExactApplySubst': WHATEVER THE INPUT: true; the input reads as it did. -/
def fnExactApplySubstSpec : ChangeSpec := { name := "fnExactApplySubst", fn := fun _ => fun
  | [d1, d2] => { results := [.lit (.bool true)], args := [d1, d2] }
  | _ => none }
def fnExactApplySubstRow : OpenClaim := { program := "ytjhpcpmapncbiaa", sum := "98eb83b27174d63644867f03ccae088756d0382badde5bbb1f6f62aeef96d49b", func := "loop.example/g03210/laws.FnExactApplySubst", spec := "fnExactApplySubst", unfollowed := true, recurses := true, loops := true, apart := false }
def FnExactApplySubstSaid : Prop := fnExactApplySubstRow.holds Try.pinned (OpenSpec.ofChange fnExactApplySubstSpec)

/-- ITS FALSE NEIGHBOUR: 'it returns false'. Refute it at one input. -/
def fnExactApplySubstWrong : ChangeSpec := { name := "fnExactApplySubst", fn := fun _ => fun
  | [d1, d2] => { results := [.lit (.bool false)], args := [d1, d2] }
  | _ => none }
def FnExactApplySubstWrongFalsely : Prop := fnExactApplySubstRow.holds Try.pinned (OpenSpec.ofChange fnExactApplySubstWrong)

/-- 'laws.FnExactDisequalityHolds': WHATEVER THE INPUT: true; the input reads as it did. -/
def fnExactDisequalityHoldsSpec : ChangeSpec := { name := "fnExactDisequalityHolds", fn := fun _ => fun
  | [d1, d2] => { results := [.lit (.bool true)], args := [d1, d2] }
  | _ => none }
def fnExactDisequalityHoldsRow : OpenClaim := { program := "ytjhpcpmapncbiaa", sum := "98eb83b27174d63644867f03ccae088756d0382badde5bbb1f6f62aeef96d49b", func := "loop.example/g03210/laws.FnExactDisequalityHolds", spec := "fnExactDisequalityHolds", unfollowed := true, recurses := true, loops := true, apart := false }
def FnExactDisequalityHoldsSaid : Prop := fnExactDisequalityHoldsRow.holds Try.pinned (OpenSpec.ofChange fnExactDisequalityHoldsSpec)

/-- ITS FALSE NEIGHBOUR: 'it returns false'. Refute it at one input. -/
def fnExactDisequalityHoldsWrong : ChangeSpec := { name := "fnExactDisequalityHolds", fn := fun _ => fun
  | [d1, d2] => { results := [.lit (.bool false)], args := [d1, d2] }
  | _ => none }
def FnExactDisequalityHoldsWrongFalsely : Prop := fnExactDisequalityHoldsRow.holds Try.pinned (OpenSpec.ofChange fnExactDisequalityHoldsWrong)

/-- 'laws.FnExactReify': WHATEVER THE INPUT: true; the input reads as it did. -/
def fnExactReifySpec : ChangeSpec := { name := "fnExactReify", fn := fun _ => fun
  | [d1, d2] => { results := [.lit (.bool true)], args := [d1, d2] }
  | _ => none }
def fnExactReifyRow : OpenClaim := { program := "ytjhpcpmapncbiaa", sum := "98eb83b27174d63644867f03ccae088756d0382badde5bbb1f6f62aeef96d49b", func := "loop.example/g03210/laws.FnExactReify", spec := "fnExactReify", unfollowed := true, recurses := true, loops := true, apart := false }
def FnExactReifySaid : Prop := fnExactReifyRow.holds Try.pinned (OpenSpec.ofChange fnExactReifySpec)

/-- ITS FALSE NEIGHBOUR: 'it returns false'. Refute it at one input. -/
def fnExactReifyWrong : ChangeSpec := { name := "fnExactReify", fn := fun _ => fun
  | [d1, d2] => { results := [.lit (.bool false)], args := [d1, d2] }
  | _ => none }
def FnExactReifyWrongFalsely : Prop := fnExactReifyRow.holds Try.pinned (OpenSpec.ofChange fnExactReifyWrong)

/-- 'laws.FnExactInstantiateGoal': WHATEVER THE INPUT: true; the input reads as it did. -/
def fnExactInstantiateGoalSpec : ChangeSpec := { name := "fnExactInstantiateGoal", fn := fun _ => fun
  | [d1, d2] => { results := [.lit (.bool true)], args := [d1, d2] }
  | _ => none }
def fnExactInstantiateGoalRow : OpenClaim := { program := "ytjhpcpmapncbiaa", sum := "98eb83b27174d63644867f03ccae088756d0382badde5bbb1f6f62aeef96d49b", func := "loop.example/g03210/laws.FnExactInstantiateGoal", spec := "fnExactInstantiateGoal", unfollowed := true, recurses := true, loops := true, apart := false }
def FnExactInstantiateGoalSaid : Prop := fnExactInstantiateGoalRow.holds Try.pinned (OpenSpec.ofChange fnExactInstantiateGoalSpec)

/-- ITS FALSE NEIGHBOUR: 'it returns false'. Refute it at one input. -/
def fnExactInstantiateGoalWrong : ChangeSpec := { name := "fnExactInstantiateGoal", fn := fun _ => fun
  | [d1, d2] => { results := [.lit (.bool false)], args := [d1, d2] }
  | _ => none }
def FnExactInstantiateGoalWrongFalsely : Prop := fnExactInstantiateGoalRow.holds Try.pinned (OpenSpec.ofChange fnExactInstantiateGoalWrong)

/-- 'laws.FnExactCountGoals': WHATEVER THE INPUT: true; the input reads as it did. -/
def fnExactCountGoalsSpec : ChangeSpec := { name := "fnExactCountGoals", fn := fun _ => fun
  | [d] => { results := [.lit (.bool true)], args := [d] }
  | _ => none }
def fnExactCountGoalsRow : OpenClaim := { program := "ytjhpcpmapncbiaa", sum := "98eb83b27174d63644867f03ccae088756d0382badde5bbb1f6f62aeef96d49b", func := "loop.example/g03210/laws.FnExactCountGoals", spec := "fnExactCountGoals", unfollowed := true, recurses := true, loops := true, apart := false }
def FnExactCountGoalsSaid : Prop := fnExactCountGoalsRow.holds Try.pinned (OpenSpec.ofChange fnExactCountGoalsSpec)

/-- ITS FALSE NEIGHBOUR: 'it returns false'. Refute it at one input. -/
def fnExactCountGoalsWrong : ChangeSpec := { name := "fnExactCountGoals", fn := fun _ => fun
  | [d] => { results := [.lit (.bool false)], args := [d] }
  | _ => none }
def FnExactCountGoalsWrongFalsely : Prop := fnExactCountGoalsRow.holds Try.pinned (OpenSpec.ofChange fnExactCountGoalsWrong)

/-- 'laws.FnExactMinimalDisequalities': WHATEVER THE INPUT: true; the input reads as it did. -/
def fnExactMinimalDisequalitiesSpec : ChangeSpec := { name := "fnExactMinimalDisequalities", fn := fun _ => fun
  | [d] => { results := [.lit (.bool true)], args := [d] }
  | _ => none }
def fnExactMinimalDisequalitiesRow : OpenClaim := { program := "ytjhpcpmapncbiaa", sum := "98eb83b27174d63644867f03ccae088756d0382badde5bbb1f6f62aeef96d49b", func := "loop.example/g03210/laws.FnExactMinimalDisequalities", spec := "fnExactMinimalDisequalities", inPlace := ["internal/reflectlite.ValueOf", "internal/reflectlite.Swapper", "(internal/reflectlite.Value).Len"], unfollowed := true, recurses := true, loops := true, apart := false }
def FnExactMinimalDisequalitiesSaid : Prop := fnExactMinimalDisequalitiesRow.holds Try.pinned (OpenSpec.ofChange fnExactMinimalDisequalitiesSpec)

/-- ITS FALSE NEIGHBOUR: 'it returns false'. Refute it at one input. -/
def fnExactMinimalDisequalitiesWrong : ChangeSpec := { name := "fnExactMinimalDisequalities", fn := fun _ => fun
  | [d] => { results := [.lit (.bool false)], args := [d] }
  | _ => none }
def FnExactMinimalDisequalitiesWrongFalsely : Prop := fnExactMinimalDisequalitiesRow.holds Try.pinned (OpenSpec.ofChange fnExactMinimalDisequalitiesWrong)

/-- 'laws.FnExactComposeSubst': WHATEVER THE INPUT: true; the input reads as it did. -/
def fnExactComposeSubstSpec : ChangeSpec := { name := "fnExactComposeSubst", fn := fun _ => fun
  | [d1, d2] => { results := [.lit (.bool true)], args := [d1, d2] }
  | _ => none }
def fnExactComposeSubstRow : OpenClaim := { program := "ytjhpcpmapncbiaa", sum := "98eb83b27174d63644867f03ccae088756d0382badde5bbb1f6f62aeef96d49b", func := "loop.example/g03210/laws.FnExactComposeSubst", spec := "fnExactComposeSubst", inPlace := ["internal/reflectlite.ValueOf", "internal/reflectlite.Swapper", "(internal/reflectlite.Value).Len"], unfollowed := true, recurses := true, loops := true, apart := false }
def FnExactComposeSubstSaid : Prop := fnExactComposeSubstRow.holds Try.pinned (OpenSpec.ofChange fnExactComposeSubstSpec)

/-- ITS FALSE NEIGHBOUR: 'it returns false'. Refute it at one input. -/
def fnExactComposeSubstWrong : ChangeSpec := { name := "fnExactComposeSubst", fn := fun _ => fun
  | [d1, d2] => { results := [.lit (.bool false)], args := [d1, d2] }
  | _ => none }
def FnExactComposeSubstWrongFalsely : Prop := fnExactComposeSubstRow.holds Try.pinned (OpenSpec.ofChange fnExactComposeSubstWrong)

/-- 'laws.FnExactRefreshKinds': WHATEVER THE INPUT: true; the input reads as it did. -/
def fnExactRefreshKindsSpec : ChangeSpec := { name := "fnExactRefreshKinds", fn := fun _ => fun
  | [d1, d2] => { results := [.lit (.bool true)], args := [d1, d2] }
  | _ => none }
def fnExactRefreshKindsRow : OpenClaim := { program := "ytjhpcpmapncbiaa", sum := "98eb83b27174d63644867f03ccae088756d0382badde5bbb1f6f62aeef96d49b", func := "loop.example/g03210/laws.FnExactRefreshKinds", spec := "fnExactRefreshKinds", inPlace := ["internal/reflectlite.ValueOf", "internal/reflectlite.Swapper", "(internal/reflectlite.Value).Len"], unfollowed := true, recurses := true, loops := true, apart := false }
def FnExactRefreshKindsSaid : Prop := fnExactRefreshKindsRow.holds Try.pinned (OpenSpec.ofChange fnExactRefreshKindsSpec)

/-- ITS FALSE NEIGHBOUR: 'it returns false'. Refute it at one input. -/
def fnExactRefreshKindsWrong : ChangeSpec := { name := "fnExactRefreshKinds", fn := fun _ => fun
  | [d1, d2] => { results := [.lit (.bool false)], args := [d1, d2] }
  | _ => none }
def FnExactRefreshKindsWrongFalsely : Prop := fnExactRefreshKindsRow.holds Try.pinned (OpenSpec.ofChange fnExactRefreshKindsWrong)

/-- 'laws.FnExactAddKind': WHATEVER THE INPUT: true; the input reads as it did. -/
def fnExactAddKindSpec : ChangeSpec := { name := "fnExactAddKind", fn := fun _ => fun
  | [d1, d2, d3, d4] => { results := [.lit (.bool true)], args := [d1, d2, d3, d4] }
  | _ => none }
def fnExactAddKindRow : OpenClaim := { program := "ytjhpcpmapncbiaa", sum := "98eb83b27174d63644867f03ccae088756d0382badde5bbb1f6f62aeef96d49b", func := "loop.example/g03210/laws.FnExactAddKind", spec := "fnExactAddKind", inPlace := ["internal/reflectlite.ValueOf", "internal/reflectlite.Swapper", "(internal/reflectlite.Value).Len"], unfollowed := true, recurses := true, loops := true, apart := false }
def FnExactAddKindSaid : Prop := fnExactAddKindRow.holds Try.pinned (OpenSpec.ofChange fnExactAddKindSpec)

/-- ITS FALSE NEIGHBOUR: 'it returns false'. Refute it at one input. -/
def fnExactAddKindWrong : ChangeSpec := { name := "fnExactAddKind", fn := fun _ => fun
  | [d1, d2, d3, d4] => { results := [.lit (.bool false)], args := [d1, d2, d3, d4] }
  | _ => none }
def FnExactAddKindWrongFalsely : Prop := fnExactAddKindRow.holds Try.pinned (OpenSpec.ofChange fnExactAddKindWrong)

/-- 'laws.FnExactCodeOk': WHATEVER THE INPUT: true; the input reads as it did. -/
def fnExactCodeOkSpec : ChangeSpec := { name := "fnExactCodeOk", fn := fun _ => fun
  | [d] => { results := [.lit (.bool true)], args := [d] }
  | _ => none }
def fnExactCodeOkRow : OpenClaim := { program := "ytjhpcpmapncbiaa", sum := "98eb83b27174d63644867f03ccae088756d0382badde5bbb1f6f62aeef96d49b", func := "loop.example/g03210/laws.FnExactCodeOk", spec := "fnExactCodeOk", unfollowed := true, recurses := true, loops := true, apart := false }
def FnExactCodeOkSaid : Prop := fnExactCodeOkRow.holds Try.pinned (OpenSpec.ofChange fnExactCodeOkSpec)

/-- ITS FALSE NEIGHBOUR: 'it returns false'. Refute it at one input. -/
def fnExactCodeOkWrong : ChangeSpec := { name := "fnExactCodeOk", fn := fun _ => fun
  | [d] => { results := [.lit (.bool false)], args := [d] }
  | _ => none }
def FnExactCodeOkWrongFalsely : Prop := fnExactCodeOkRow.holds Try.pinned (OpenSpec.ofChange fnExactCodeOkWrong)

/- THE SECOND FORM. 'bulk': how many values and letters a reading holds, each counted each time it is reached (what is shared counts as often as it is met; a slice's spare places count too). A statement '..UptoSaid' is the law's where the arguments, and the package variables that the reading takes, are together of bulk at most 1048576: NARROWER than '..Said'. Prove '..Said' where nothing that the law and all that it calls make is longer than what came in: it says more and counts as full. Else prove '..UptoSaid'. A law counts once. -/
mutual
def uptoBulk {H : Type} : DataW H → Nat
  | .lit (.string bytes) => bytes.length + 1
  | .lit _ => 1
  | .nil => 1
  | .ptr d => uptoBulk d + 1
  | .slice elems spare => uptoBulkAll elems + uptoBulkAll spare + 1
  | .agg parts => uptoBulkAll parts + 1
  | .iface _ d => uptoBulk d + 1
  | .map entries => uptoBulkEntries entries + 1
  | .held _ => 1
def uptoBulkAll {H : Type} : List (DataW H) → Nat
  | [] => 0
  | d :: r => uptoBulk d + uptoBulkAll r
def uptoBulkEntries {H : Type} : List (Lit × DataW H) → Nat
  | [] => 0
  | x :: r => uptoBulkEntry x + uptoBulkEntries r
def uptoBulkEntry {H : Type} : Lit × DataW H → Nat
  | (.string bytes, d) => bytes.length + uptoBulk d + 1
  | (_, d) => uptoBulk d + 1
 end
def uptoSmall : (H : Type) → List (DataW H) → Bool := fun _ ds => decide (uptoBulkAll ds ≤ 1048576)
def OpenSpec.upto (s : _root_.Go.ChangeSpec) : _root_.Go.OpenSpec := { _root_.Go.OpenSpec.ofChange s with cond := some uptoSmall }

/-- 'laws.FnExactApplySubst', WHERE WHAT IT READS IS OF BULK AT MOST 1048576: true; the input reads as it did. -/
def fnExactApplySubstUptoRow : OpenClaim := { program := "ytjhpcpmapncbiaa", sum := "98eb83b27174d63644867f03ccae088756d0382badde5bbb1f6f62aeef96d49b", func := "loop.example/g03210/laws.FnExactApplySubst", spec := "fnExactApplySubst", unfollowed := true, recurses := true, loops := true, apart := false, narrowed := true }
def FnExactApplySubstUptoSaid : Prop := fnExactApplySubstUptoRow.holds Try.pinned (OpenSpec.upto fnExactApplySubstSpec)

/-- 'laws.FnExactDisequalityHolds', WHERE WHAT IT READS IS OF BULK AT MOST 1048576: true; the input reads as it did. -/
def fnExactDisequalityHoldsUptoRow : OpenClaim := { program := "ytjhpcpmapncbiaa", sum := "98eb83b27174d63644867f03ccae088756d0382badde5bbb1f6f62aeef96d49b", func := "loop.example/g03210/laws.FnExactDisequalityHolds", spec := "fnExactDisequalityHolds", unfollowed := true, recurses := true, loops := true, apart := false, narrowed := true }
def FnExactDisequalityHoldsUptoSaid : Prop := fnExactDisequalityHoldsUptoRow.holds Try.pinned (OpenSpec.upto fnExactDisequalityHoldsSpec)

/-- 'laws.FnExactReify', WHERE WHAT IT READS IS OF BULK AT MOST 1048576: true; the input reads as it did. -/
def fnExactReifyUptoRow : OpenClaim := { program := "ytjhpcpmapncbiaa", sum := "98eb83b27174d63644867f03ccae088756d0382badde5bbb1f6f62aeef96d49b", func := "loop.example/g03210/laws.FnExactReify", spec := "fnExactReify", unfollowed := true, recurses := true, loops := true, apart := false, narrowed := true }
def FnExactReifyUptoSaid : Prop := fnExactReifyUptoRow.holds Try.pinned (OpenSpec.upto fnExactReifySpec)

/-- 'laws.FnExactInstantiateGoal', WHERE WHAT IT READS IS OF BULK AT MOST 1048576: true; the input reads as it did. -/
def fnExactInstantiateGoalUptoRow : OpenClaim := { program := "ytjhpcpmapncbiaa", sum := "98eb83b27174d63644867f03ccae088756d0382badde5bbb1f6f62aeef96d49b", func := "loop.example/g03210/laws.FnExactInstantiateGoal", spec := "fnExactInstantiateGoal", unfollowed := true, recurses := true, loops := true, apart := false, narrowed := true }
def FnExactInstantiateGoalUptoSaid : Prop := fnExactInstantiateGoalUptoRow.holds Try.pinned (OpenSpec.upto fnExactInstantiateGoalSpec)

/-- 'laws.FnExactCountGoals', WHERE WHAT IT READS IS OF BULK AT MOST 1048576: true; the input reads as it did. -/
def fnExactCountGoalsUptoRow : OpenClaim := { program := "ytjhpcpmapncbiaa", sum := "98eb83b27174d63644867f03ccae088756d0382badde5bbb1f6f62aeef96d49b", func := "loop.example/g03210/laws.FnExactCountGoals", spec := "fnExactCountGoals", unfollowed := true, recurses := true, loops := true, apart := false, narrowed := true }
def FnExactCountGoalsUptoSaid : Prop := fnExactCountGoalsUptoRow.holds Try.pinned (OpenSpec.upto fnExactCountGoalsSpec)

/-- 'laws.FnExactMinimalDisequalities', WHERE WHAT IT READS IS OF BULK AT MOST 1048576: true; the input reads as it did. -/
def fnExactMinimalDisequalitiesUptoRow : OpenClaim := { program := "ytjhpcpmapncbiaa", sum := "98eb83b27174d63644867f03ccae088756d0382badde5bbb1f6f62aeef96d49b", func := "loop.example/g03210/laws.FnExactMinimalDisequalities", spec := "fnExactMinimalDisequalities", inPlace := ["internal/reflectlite.ValueOf", "internal/reflectlite.Swapper", "(internal/reflectlite.Value).Len"], unfollowed := true, recurses := true, loops := true, apart := false, narrowed := true }
def FnExactMinimalDisequalitiesUptoSaid : Prop := fnExactMinimalDisequalitiesUptoRow.holds Try.pinned (OpenSpec.upto fnExactMinimalDisequalitiesSpec)

/-- 'laws.FnExactComposeSubst', WHERE WHAT IT READS IS OF BULK AT MOST 1048576: true; the input reads as it did. -/
def fnExactComposeSubstUptoRow : OpenClaim := { program := "ytjhpcpmapncbiaa", sum := "98eb83b27174d63644867f03ccae088756d0382badde5bbb1f6f62aeef96d49b", func := "loop.example/g03210/laws.FnExactComposeSubst", spec := "fnExactComposeSubst", inPlace := ["internal/reflectlite.ValueOf", "internal/reflectlite.Swapper", "(internal/reflectlite.Value).Len"], unfollowed := true, recurses := true, loops := true, apart := false, narrowed := true }
def FnExactComposeSubstUptoSaid : Prop := fnExactComposeSubstUptoRow.holds Try.pinned (OpenSpec.upto fnExactComposeSubstSpec)

/-- 'laws.FnExactRefreshKinds', WHERE WHAT IT READS IS OF BULK AT MOST 1048576: true; the input reads as it did. -/
def fnExactRefreshKindsUptoRow : OpenClaim := { program := "ytjhpcpmapncbiaa", sum := "98eb83b27174d63644867f03ccae088756d0382badde5bbb1f6f62aeef96d49b", func := "loop.example/g03210/laws.FnExactRefreshKinds", spec := "fnExactRefreshKinds", inPlace := ["internal/reflectlite.ValueOf", "internal/reflectlite.Swapper", "(internal/reflectlite.Value).Len"], unfollowed := true, recurses := true, loops := true, apart := false, narrowed := true }
def FnExactRefreshKindsUptoSaid : Prop := fnExactRefreshKindsUptoRow.holds Try.pinned (OpenSpec.upto fnExactRefreshKindsSpec)

/-- 'laws.FnExactAddKind', WHERE WHAT IT READS IS OF BULK AT MOST 1048576: true; the input reads as it did. -/
def fnExactAddKindUptoRow : OpenClaim := { program := "ytjhpcpmapncbiaa", sum := "98eb83b27174d63644867f03ccae088756d0382badde5bbb1f6f62aeef96d49b", func := "loop.example/g03210/laws.FnExactAddKind", spec := "fnExactAddKind", inPlace := ["internal/reflectlite.ValueOf", "internal/reflectlite.Swapper", "(internal/reflectlite.Value).Len"], unfollowed := true, recurses := true, loops := true, apart := false, narrowed := true }
def FnExactAddKindUptoSaid : Prop := fnExactAddKindUptoRow.holds Try.pinned (OpenSpec.upto fnExactAddKindSpec)

/-- 'laws.FnExactCodeOk', WHERE WHAT IT READS IS OF BULK AT MOST 1048576: true; the input reads as it did. -/
def fnExactCodeOkUptoRow : OpenClaim := { program := "ytjhpcpmapncbiaa", sum := "98eb83b27174d63644867f03ccae088756d0382badde5bbb1f6f62aeef96d49b", func := "loop.example/g03210/laws.FnExactCodeOk", spec := "fnExactCodeOk", unfollowed := true, recurses := true, loops := true, apart := false, narrowed := true }
def FnExactCodeOkUptoSaid : Prop := fnExactCodeOkUptoRow.holds Try.pinned (OpenSpec.upto fnExactCodeOkSpec)

end Rows
end Go.Proofs.Ytjhpcpmapncbiaa
