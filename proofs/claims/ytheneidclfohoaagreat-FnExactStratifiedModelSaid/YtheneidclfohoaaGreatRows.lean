/-
  NARROWER THAN 'FOR EVERY INPUT', by the rows' own cells (each row's printed sentence says how): FnExactSpecializeRel: loops · FnExactUnfoldCall: loops · FnExactIsStable: loops · FnExactWellFounded: loops · FnExactRelevantFacts: loops · FnExactReductModel: loops · FnExactStratifiedModel: loops · FnExactSpecialFacts: loops · FnExactOverdeleted: loops · FnExactBaseModel: loops · FnExactAddFact: loops · FnExactRemoveFact: loops.
  DERIVED. THE GIVEN ROWS OF THIS SEAT. 12 by the template 'for every input the law returns true; each argument reads behind the call as it read before'; 0 by the template 'total and deterministic' (their statements: YtheneidclfohoaaGreatTotals.lean).
  GIVEN WITH THE SEED: the statements are not yours to turn. If you find one false, say at which input.
  Laid BY PROGRAM, IN A SANDBOX (cutbox-rows.mjs): the forced cells as the released guide's own fill.sh prints them over the translation e173c486e8494267… (all of the seat's roots in one cut). By AI agents, Wed Nov 11 2026. No macro, syntax, notation, axiom, sorry.
-/
import Derived.Test.YtheneidclfohoaaGreatChecked
import GoSem.Claim
import GoSem.ClaimJoined
import GoSem.ClaimMapViews
import Derived.JoinedTies
import Derived.KernelRfl
namespace Go.Proofs.YtheneidclfohoaaGreat
/- THE CELL 'sum', in the pinned program and in every row, IS THE sha256 OF THE DUMP (.gsa) THAT YtheneidclfohoaaGreatProg.lean LOADS. Nothing in Lean hashes anything: it is a label: what it is worth is what the hold of that sum in a sandbox is worth. -/
noncomputable def Tryz.pinned : Pinned := { name := "ytheneidclfohoaagreat", sum := "e173c486e84942677ec2be09191d9837a4f434d58562638e25377879b151a657", checked := Tryz.checked }
namespace Rows
def none {H : Type} : Left H := { results := [], args := [] }

/-- 'laws.FnExactSpecializeRel': WHATEVER THE INPUT: true; the input reads as it did. -/
def fnExactSpecializeRelSpec : ChangeSpec := { name := "fnExactSpecializeRel", fn := fun _ => fun
  | [d1, d2, d3, d4, d5] => { results := [.lit (.bool true)], args := [d1, d2, d3, d4, d5] }
  | _ => none }
def fnExactSpecializeRelRow : OpenClaim := { program := "ytheneidclfohoaagreat", sum := "e173c486e84942677ec2be09191d9837a4f434d58562638e25377879b151a657", func := "loop.example/g03210/laws.FnExactSpecializeRel", spec := "fnExactSpecializeRel", unfollowed := true, recurses := true, loops := true, apart := false }
def FnExactSpecializeRelSaid : Prop := fnExactSpecializeRelRow.holds Tryz.pinned (OpenSpec.ofChange fnExactSpecializeRelSpec)

/-- ITS FALSE NEIGHBOUR: 'it returns false'. Refute it at one input. -/
def fnExactSpecializeRelWrong : ChangeSpec := { name := "fnExactSpecializeRel", fn := fun _ => fun
  | [d1, d2, d3, d4, d5] => { results := [.lit (.bool false)], args := [d1, d2, d3, d4, d5] }
  | _ => none }
def FnExactSpecializeRelWrongFalsely : Prop := fnExactSpecializeRelRow.holds Tryz.pinned (OpenSpec.ofChange fnExactSpecializeRelWrong)

/-- 'laws.FnExactUnfoldCall': WHATEVER THE INPUT: true; the input reads as it did. -/
def fnExactUnfoldCallSpec : ChangeSpec := { name := "fnExactUnfoldCall", fn := fun _ => fun
  | [d1, d2, d3, d4] => { results := [.lit (.bool true)], args := [d1, d2, d3, d4] }
  | _ => none }
def fnExactUnfoldCallRow : OpenClaim := { program := "ytheneidclfohoaagreat", sum := "e173c486e84942677ec2be09191d9837a4f434d58562638e25377879b151a657", func := "loop.example/g03210/laws.FnExactUnfoldCall", spec := "fnExactUnfoldCall", unfollowed := true, recurses := true, loops := true, apart := false }
def FnExactUnfoldCallSaid : Prop := fnExactUnfoldCallRow.holds Tryz.pinned (OpenSpec.ofChange fnExactUnfoldCallSpec)

/-- ITS FALSE NEIGHBOUR: 'it returns false'. Refute it at one input. -/
def fnExactUnfoldCallWrong : ChangeSpec := { name := "fnExactUnfoldCall", fn := fun _ => fun
  | [d1, d2, d3, d4] => { results := [.lit (.bool false)], args := [d1, d2, d3, d4] }
  | _ => none }
def FnExactUnfoldCallWrongFalsely : Prop := fnExactUnfoldCallRow.holds Tryz.pinned (OpenSpec.ofChange fnExactUnfoldCallWrong)

/-- 'laws.FnExactIsStable': WHATEVER THE INPUT: true; the input reads as it did. -/
def fnExactIsStableSpec : ChangeSpec := { name := "fnExactIsStable", fn := fun _ => fun
  | [d1, d2, d3] => { results := [.lit (.bool true)], args := [d1, d2, d3] }
  | _ => none }
def fnExactIsStableRow : OpenClaim := { program := "ytheneidclfohoaagreat", sum := "e173c486e84942677ec2be09191d9837a4f434d58562638e25377879b151a657", func := "loop.example/g03210/laws.FnExactIsStable", spec := "fnExactIsStable", inPlace := ["internal/reflectlite.ValueOf", "internal/reflectlite.Swapper", "(internal/reflectlite.Value).Len"], unfollowed := true, recurses := true, loops := true, apart := false }
def FnExactIsStableSaid : Prop := fnExactIsStableRow.holds Tryz.pinned (OpenSpec.ofChange fnExactIsStableSpec)

/-- ITS FALSE NEIGHBOUR: 'it returns false'. Refute it at one input. -/
def fnExactIsStableWrong : ChangeSpec := { name := "fnExactIsStable", fn := fun _ => fun
  | [d1, d2, d3] => { results := [.lit (.bool false)], args := [d1, d2, d3] }
  | _ => none }
def FnExactIsStableWrongFalsely : Prop := fnExactIsStableRow.holds Tryz.pinned (OpenSpec.ofChange fnExactIsStableWrong)

/-- 'laws.FnExactWellFounded': WHATEVER THE INPUT: true; the input reads as it did. -/
def fnExactWellFoundedSpec : ChangeSpec := { name := "fnExactWellFounded", fn := fun _ => fun
  | [d1, d2] => { results := [.lit (.bool true)], args := [d1, d2] }
  | _ => none }
def fnExactWellFoundedRow : OpenClaim := { program := "ytheneidclfohoaagreat", sum := "e173c486e84942677ec2be09191d9837a4f434d58562638e25377879b151a657", func := "loop.example/g03210/laws.FnExactWellFounded", spec := "fnExactWellFounded", inPlace := ["internal/reflectlite.ValueOf", "internal/reflectlite.Swapper", "(internal/reflectlite.Value).Len"], unfollowed := true, recurses := true, loops := true, apart := false }
def FnExactWellFoundedSaid : Prop := fnExactWellFoundedRow.holds Tryz.pinned (OpenSpec.ofChange fnExactWellFoundedSpec)

/-- ITS FALSE NEIGHBOUR: 'it returns false'. Refute it at one input. -/
def fnExactWellFoundedWrong : ChangeSpec := { name := "fnExactWellFounded", fn := fun _ => fun
  | [d1, d2] => { results := [.lit (.bool false)], args := [d1, d2] }
  | _ => none }
def FnExactWellFoundedWrongFalsely : Prop := fnExactWellFoundedRow.holds Tryz.pinned (OpenSpec.ofChange fnExactWellFoundedWrong)

/-- 'laws.FnExactRelevantFacts': WHATEVER THE INPUT: true; the input reads as it did. -/
def fnExactRelevantFactsSpec : ChangeSpec := { name := "fnExactRelevantFacts", fn := fun _ => fun
  | [d1, d2, d3] => { results := [.lit (.bool true)], args := [d1, d2, d3] }
  | _ => none }
def fnExactRelevantFactsRow : OpenClaim := { program := "ytheneidclfohoaagreat", sum := "e173c486e84942677ec2be09191d9837a4f434d58562638e25377879b151a657", func := "loop.example/g03210/laws.FnExactRelevantFacts", spec := "fnExactRelevantFacts", inPlace := ["internal/reflectlite.ValueOf", "internal/reflectlite.Swapper", "(internal/reflectlite.Value).Len"], unfollowed := true, recurses := true, loops := true, apart := false }
def FnExactRelevantFactsSaid : Prop := fnExactRelevantFactsRow.holds Tryz.pinned (OpenSpec.ofChange fnExactRelevantFactsSpec)

/-- ITS FALSE NEIGHBOUR: 'it returns false'. Refute it at one input. -/
def fnExactRelevantFactsWrong : ChangeSpec := { name := "fnExactRelevantFacts", fn := fun _ => fun
  | [d1, d2, d3] => { results := [.lit (.bool false)], args := [d1, d2, d3] }
  | _ => none }
def FnExactRelevantFactsWrongFalsely : Prop := fnExactRelevantFactsRow.holds Tryz.pinned (OpenSpec.ofChange fnExactRelevantFactsWrong)

/-- 'laws.FnExactReductModel': WHATEVER THE INPUT: true; the input reads as it did. -/
def fnExactReductModelSpec : ChangeSpec := { name := "fnExactReductModel", fn := fun _ => fun
  | [d1, d2, d3] => { results := [.lit (.bool true)], args := [d1, d2, d3] }
  | _ => none }
def fnExactReductModelRow : OpenClaim := { program := "ytheneidclfohoaagreat", sum := "e173c486e84942677ec2be09191d9837a4f434d58562638e25377879b151a657", func := "loop.example/g03210/laws.FnExactReductModel", spec := "fnExactReductModel", inPlace := ["internal/reflectlite.ValueOf", "internal/reflectlite.Swapper", "(internal/reflectlite.Value).Len"], unfollowed := true, recurses := true, loops := true, apart := false }
def FnExactReductModelSaid : Prop := fnExactReductModelRow.holds Tryz.pinned (OpenSpec.ofChange fnExactReductModelSpec)

/-- ITS FALSE NEIGHBOUR: 'it returns false'. Refute it at one input. -/
def fnExactReductModelWrong : ChangeSpec := { name := "fnExactReductModel", fn := fun _ => fun
  | [d1, d2, d3] => { results := [.lit (.bool false)], args := [d1, d2, d3] }
  | _ => none }
def FnExactReductModelWrongFalsely : Prop := fnExactReductModelRow.holds Tryz.pinned (OpenSpec.ofChange fnExactReductModelWrong)

/-- 'laws.FnExactStratifiedModel': WHATEVER THE INPUT: true; the input reads as it did. -/
def fnExactStratifiedModelSpec : ChangeSpec := { name := "fnExactStratifiedModel", fn := fun _ => fun
  | [d1, d2] => { results := [.lit (.bool true)], args := [d1, d2] }
  | _ => none }
def fnExactStratifiedModelRow : OpenClaim := { program := "ytheneidclfohoaagreat", sum := "e173c486e84942677ec2be09191d9837a4f434d58562638e25377879b151a657", func := "loop.example/g03210/laws.FnExactStratifiedModel", spec := "fnExactStratifiedModel", inPlace := ["internal/reflectlite.ValueOf", "internal/reflectlite.Swapper", "(internal/reflectlite.Value).Len"], unfollowed := true, recurses := true, loops := true, apart := false }
def FnExactStratifiedModelSaid : Prop := fnExactStratifiedModelRow.holds Tryz.pinned (OpenSpec.ofChange fnExactStratifiedModelSpec)

/-- ITS FALSE NEIGHBOUR: 'it returns false'. Refute it at one input. -/
def fnExactStratifiedModelWrong : ChangeSpec := { name := "fnExactStratifiedModel", fn := fun _ => fun
  | [d1, d2] => { results := [.lit (.bool false)], args := [d1, d2] }
  | _ => none }
def FnExactStratifiedModelWrongFalsely : Prop := fnExactStratifiedModelRow.holds Tryz.pinned (OpenSpec.ofChange fnExactStratifiedModelWrong)

/-- 'laws.FnExactSpecialFacts': WHATEVER THE INPUT: true; the input reads as it did. -/
def fnExactSpecialFactsSpec : ChangeSpec := { name := "fnExactSpecialFacts", fn := fun _ => fun
  | [d1, d2, d3, d4, d5] => { results := [.lit (.bool true)], args := [d1, d2, d3, d4, d5] }
  | _ => none }
def fnExactSpecialFactsRow : OpenClaim := { program := "ytheneidclfohoaagreat", sum := "e173c486e84942677ec2be09191d9837a4f434d58562638e25377879b151a657", func := "loop.example/g03210/laws.FnExactSpecialFacts", spec := "fnExactSpecialFacts", inPlace := ["internal/reflectlite.ValueOf", "internal/reflectlite.Swapper", "(internal/reflectlite.Value).Len"], unfollowed := true, recurses := true, loops := true, apart := false }
def FnExactSpecialFactsSaid : Prop := fnExactSpecialFactsRow.holds Tryz.pinned (OpenSpec.ofChange fnExactSpecialFactsSpec)

/-- ITS FALSE NEIGHBOUR: 'it returns false'. Refute it at one input. -/
def fnExactSpecialFactsWrong : ChangeSpec := { name := "fnExactSpecialFacts", fn := fun _ => fun
  | [d1, d2, d3, d4, d5] => { results := [.lit (.bool false)], args := [d1, d2, d3, d4, d5] }
  | _ => none }
def FnExactSpecialFactsWrongFalsely : Prop := fnExactSpecialFactsRow.holds Tryz.pinned (OpenSpec.ofChange fnExactSpecialFactsWrong)

/-- 'laws.FnExactOverdeleted': WHATEVER THE INPUT: true; the input reads as it did. -/
def fnExactOverdeletedSpec : ChangeSpec := { name := "fnExactOverdeleted", fn := fun _ => fun
  | [d1, d2, d3, d4] => { results := [.lit (.bool true)], args := [d1, d2, d3, d4] }
  | _ => none }
def fnExactOverdeletedRow : OpenClaim := { program := "ytheneidclfohoaagreat", sum := "e173c486e84942677ec2be09191d9837a4f434d58562638e25377879b151a657", func := "loop.example/g03210/laws.FnExactOverdeleted", spec := "fnExactOverdeleted", inPlace := ["internal/reflectlite.ValueOf", "internal/reflectlite.Swapper", "(internal/reflectlite.Value).Len"], unfollowed := true, recurses := true, loops := true, apart := false }
def FnExactOverdeletedSaid : Prop := fnExactOverdeletedRow.holds Tryz.pinned (OpenSpec.ofChange fnExactOverdeletedSpec)

/-- ITS FALSE NEIGHBOUR: 'it returns false'. Refute it at one input. -/
def fnExactOverdeletedWrong : ChangeSpec := { name := "fnExactOverdeleted", fn := fun _ => fun
  | [d1, d2, d3, d4] => { results := [.lit (.bool false)], args := [d1, d2, d3, d4] }
  | _ => none }
def FnExactOverdeletedWrongFalsely : Prop := fnExactOverdeletedRow.holds Tryz.pinned (OpenSpec.ofChange fnExactOverdeletedWrong)

/-- 'laws.FnExactBaseModel': WHATEVER THE INPUT: true; the input reads as it did. -/
def fnExactBaseModelSpec : ChangeSpec := { name := "fnExactBaseModel", fn := fun _ => fun
  | [d1, d2, d3] => { results := [.lit (.bool true)], args := [d1, d2, d3] }
  | _ => none }
def fnExactBaseModelRow : OpenClaim := { program := "ytheneidclfohoaagreat", sum := "e173c486e84942677ec2be09191d9837a4f434d58562638e25377879b151a657", func := "loop.example/g03210/laws.FnExactBaseModel", spec := "fnExactBaseModel", inPlace := ["internal/reflectlite.ValueOf", "internal/reflectlite.Swapper", "(internal/reflectlite.Value).Len"], unfollowed := true, recurses := true, loops := true, apart := false }
def FnExactBaseModelSaid : Prop := fnExactBaseModelRow.holds Tryz.pinned (OpenSpec.ofChange fnExactBaseModelSpec)

/-- ITS FALSE NEIGHBOUR: 'it returns false'. Refute it at one input. -/
def fnExactBaseModelWrong : ChangeSpec := { name := "fnExactBaseModel", fn := fun _ => fun
  | [d1, d2, d3] => { results := [.lit (.bool false)], args := [d1, d2, d3] }
  | _ => none }
def FnExactBaseModelWrongFalsely : Prop := fnExactBaseModelRow.holds Tryz.pinned (OpenSpec.ofChange fnExactBaseModelWrong)

/-- 'laws.FnExactAddFact': WHATEVER THE INPUT: true; the input reads as it did. -/
def fnExactAddFactSpec : ChangeSpec := { name := "fnExactAddFact", fn := fun _ => fun
  | [d1, d2, d3, d4, d5] => { results := [.lit (.bool true)], args := [d1, d2, d3, d4, d5] }
  | _ => none }
def fnExactAddFactRow : OpenClaim := { program := "ytheneidclfohoaagreat", sum := "e173c486e84942677ec2be09191d9837a4f434d58562638e25377879b151a657", func := "loop.example/g03210/laws.FnExactAddFact", spec := "fnExactAddFact", inPlace := ["internal/reflectlite.ValueOf", "internal/reflectlite.Swapper", "(internal/reflectlite.Value).Len"], unfollowed := true, recurses := true, loops := true, apart := false }
def FnExactAddFactSaid : Prop := fnExactAddFactRow.holds Tryz.pinned (OpenSpec.ofChange fnExactAddFactSpec)

/-- ITS FALSE NEIGHBOUR: 'it returns false'. Refute it at one input. -/
def fnExactAddFactWrong : ChangeSpec := { name := "fnExactAddFact", fn := fun _ => fun
  | [d1, d2, d3, d4, d5] => { results := [.lit (.bool false)], args := [d1, d2, d3, d4, d5] }
  | _ => none }
def FnExactAddFactWrongFalsely : Prop := fnExactAddFactRow.holds Tryz.pinned (OpenSpec.ofChange fnExactAddFactWrong)

/-- 'laws.FnExactRemoveFact': WHATEVER THE INPUT: true; the input reads as it did. -/
def fnExactRemoveFactSpec : ChangeSpec := { name := "fnExactRemoveFact", fn := fun _ => fun
  | [d1, d2, d3, d4, d5] => { results := [.lit (.bool true)], args := [d1, d2, d3, d4, d5] }
  | _ => none }
def fnExactRemoveFactRow : OpenClaim := { program := "ytheneidclfohoaagreat", sum := "e173c486e84942677ec2be09191d9837a4f434d58562638e25377879b151a657", func := "loop.example/g03210/laws.FnExactRemoveFact", spec := "fnExactRemoveFact", inPlace := ["internal/reflectlite.ValueOf", "internal/reflectlite.Swapper", "(internal/reflectlite.Value).Len"], unfollowed := true, recurses := true, loops := true, apart := false }
def FnExactRemoveFactSaid : Prop := fnExactRemoveFactRow.holds Tryz.pinned (OpenSpec.ofChange fnExactRemoveFactSpec)

/-- ITS FALSE NEIGHBOUR: 'it returns false'. Refute it at one input. -/
def fnExactRemoveFactWrong : ChangeSpec := { name := "fnExactRemoveFact", fn := fun _ => fun
  | [d1, d2, d3, d4, d5] => { results := [.lit (.bool false)], args := [d1, d2, d3, d4, d5] }
  | _ => none }
def FnExactRemoveFactWrongFalsely : Prop := fnExactRemoveFactRow.holds Tryz.pinned (OpenSpec.ofChange fnExactRemoveFactWrong)

/- THE SECOND FORM. 'bulk': how many values and letters a reading holds, each counted each time it is reached (what is shared counts as often as it is met; a slice's spare places count too). A statement '..UptoSaid' is the law's where the arguments, and the package variables that the reading takes, are together of bulk at most 1048576: NARROWER than '..Said'. Prove '..Said' where nothing that the law and all that it calls make is longer than what came in: it says more and counts as full. Else prove '..UptoSaid'. A law counts once. -/
mutual
def uptoBulk {H : Type} : DataW H → Nat
  | .lit (.string bytes) => bytes.length + 1
  | .lit _ => 1
  | .nil => 1
  | .ptr d => uptoBulk d + 1
  | .slice elems spare => uptoBulkAll elems + uptoBulkAll spare + 1
  | .agg parts => uptoBulkAll parts + 1
  | .iface _ d => uptoBulk d + 1
  | .map entries => uptoBulkEntries entries + 1
  | .held _ => 1
def uptoBulkAll {H : Type} : List (DataW H) → Nat
  | [] => 0
  | d :: r => uptoBulk d + uptoBulkAll r
def uptoBulkEntries {H : Type} : List (Lit × DataW H) → Nat
  | [] => 0
  | x :: r => uptoBulkEntry x + uptoBulkEntries r
def uptoBulkEntry {H : Type} : Lit × DataW H → Nat
  | (.string bytes, d) => bytes.length + uptoBulk d + 1
  | (_, d) => uptoBulk d + 1
 end
def uptoSmall : (H : Type) → List (DataW H) → Bool := fun _ ds => decide (uptoBulkAll ds ≤ 1048576)
def OpenSpec.upto (s : _root_.Go.ChangeSpec) : _root_.Go.OpenSpec := { _root_.Go.OpenSpec.ofChange s with cond := some uptoSmall }

/-- 'laws.FnExactSpecializeRel', WHERE WHAT IT READS IS OF BULK AT MOST 1048576: true; the input reads as it did. -/
def fnExactSpecializeRelUptoRow : OpenClaim := { program := "ytheneidclfohoaagreat", sum := "e173c486e84942677ec2be09191d9837a4f434d58562638e25377879b151a657", func := "loop.example/g03210/laws.FnExactSpecializeRel", spec := "fnExactSpecializeRel", unfollowed := true, recurses := true, loops := true, apart := false, narrowed := true }
def FnExactSpecializeRelUptoSaid : Prop := fnExactSpecializeRelUptoRow.holds Tryz.pinned (OpenSpec.upto fnExactSpecializeRelSpec)

/-- 'laws.FnExactUnfoldCall', WHERE WHAT IT READS IS OF BULK AT MOST 1048576: true; the input reads as it did. -/
def fnExactUnfoldCallUptoRow : OpenClaim := { program := "ytheneidclfohoaagreat", sum := "e173c486e84942677ec2be09191d9837a4f434d58562638e25377879b151a657", func := "loop.example/g03210/laws.FnExactUnfoldCall", spec := "fnExactUnfoldCall", unfollowed := true, recurses := true, loops := true, apart := false, narrowed := true }
def FnExactUnfoldCallUptoSaid : Prop := fnExactUnfoldCallUptoRow.holds Tryz.pinned (OpenSpec.upto fnExactUnfoldCallSpec)

/-- 'laws.FnExactIsStable', WHERE WHAT IT READS IS OF BULK AT MOST 1048576: true; the input reads as it did. -/
def fnExactIsStableUptoRow : OpenClaim := { program := "ytheneidclfohoaagreat", sum := "e173c486e84942677ec2be09191d9837a4f434d58562638e25377879b151a657", func := "loop.example/g03210/laws.FnExactIsStable", spec := "fnExactIsStable", inPlace := ["internal/reflectlite.ValueOf", "internal/reflectlite.Swapper", "(internal/reflectlite.Value).Len"], unfollowed := true, recurses := true, loops := true, apart := false, narrowed := true }
def FnExactIsStableUptoSaid : Prop := fnExactIsStableUptoRow.holds Tryz.pinned (OpenSpec.upto fnExactIsStableSpec)

/-- 'laws.FnExactWellFounded', WHERE WHAT IT READS IS OF BULK AT MOST 1048576: true; the input reads as it did. -/
def fnExactWellFoundedUptoRow : OpenClaim := { program := "ytheneidclfohoaagreat", sum := "e173c486e84942677ec2be09191d9837a4f434d58562638e25377879b151a657", func := "loop.example/g03210/laws.FnExactWellFounded", spec := "fnExactWellFounded", inPlace := ["internal/reflectlite.ValueOf", "internal/reflectlite.Swapper", "(internal/reflectlite.Value).Len"], unfollowed := true, recurses := true, loops := true, apart := false, narrowed := true }
def FnExactWellFoundedUptoSaid : Prop := fnExactWellFoundedUptoRow.holds Tryz.pinned (OpenSpec.upto fnExactWellFoundedSpec)

/-- 'laws.FnExactRelevantFacts', WHERE WHAT IT READS IS OF BULK AT MOST 1048576: true; the input reads as it did. -/
def fnExactRelevantFactsUptoRow : OpenClaim := { program := "ytheneidclfohoaagreat", sum := "e173c486e84942677ec2be09191d9837a4f434d58562638e25377879b151a657", func := "loop.example/g03210/laws.FnExactRelevantFacts", spec := "fnExactRelevantFacts", inPlace := ["internal/reflectlite.ValueOf", "internal/reflectlite.Swapper", "(internal/reflectlite.Value).Len"], unfollowed := true, recurses := true, loops := true, apart := false, narrowed := true }
def FnExactRelevantFactsUptoSaid : Prop := fnExactRelevantFactsUptoRow.holds Tryz.pinned (OpenSpec.upto fnExactRelevantFactsSpec)

/-- 'laws.FnExactReductModel', WHERE WHAT IT READS IS OF BULK AT MOST 1048576: true; the input reads as it did. -/
def fnExactReductModelUptoRow : OpenClaim := { program := "ytheneidclfohoaagreat", sum := "e173c486e84942677ec2be09191d9837a4f434d58562638e25377879b151a657", func := "loop.example/g03210/laws.FnExactReductModel", spec := "fnExactReductModel", inPlace := ["internal/reflectlite.ValueOf", "internal/reflectlite.Swapper", "(internal/reflectlite.Value).Len"], unfollowed := true, recurses := true, loops := true, apart := false, narrowed := true }
def FnExactReductModelUptoSaid : Prop := fnExactReductModelUptoRow.holds Tryz.pinned (OpenSpec.upto fnExactReductModelSpec)

/-- 'laws.FnExactStratifiedModel', WHERE WHAT IT READS IS OF BULK AT MOST 1048576: true; the input reads as it did. -/
def fnExactStratifiedModelUptoRow : OpenClaim := { program := "ytheneidclfohoaagreat", sum := "e173c486e84942677ec2be09191d9837a4f434d58562638e25377879b151a657", func := "loop.example/g03210/laws.FnExactStratifiedModel", spec := "fnExactStratifiedModel", inPlace := ["internal/reflectlite.ValueOf", "internal/reflectlite.Swapper", "(internal/reflectlite.Value).Len"], unfollowed := true, recurses := true, loops := true, apart := false, narrowed := true }
def FnExactStratifiedModelUptoSaid : Prop := fnExactStratifiedModelUptoRow.holds Tryz.pinned (OpenSpec.upto fnExactStratifiedModelSpec)

/-- 'laws.FnExactSpecialFacts', WHERE WHAT IT READS IS OF BULK AT MOST 1048576: true; the input reads as it did. -/
def fnExactSpecialFactsUptoRow : OpenClaim := { program := "ytheneidclfohoaagreat", sum := "e173c486e84942677ec2be09191d9837a4f434d58562638e25377879b151a657", func := "loop.example/g03210/laws.FnExactSpecialFacts", spec := "fnExactSpecialFacts", inPlace := ["internal/reflectlite.ValueOf", "internal/reflectlite.Swapper", "(internal/reflectlite.Value).Len"], unfollowed := true, recurses := true, loops := true, apart := false, narrowed := true }
def FnExactSpecialFactsUptoSaid : Prop := fnExactSpecialFactsUptoRow.holds Tryz.pinned (OpenSpec.upto fnExactSpecialFactsSpec)

/-- 'laws.FnExactOverdeleted', WHERE WHAT IT READS IS OF BULK AT MOST 1048576: true; the input reads as it did. -/
def fnExactOverdeletedUptoRow : OpenClaim := { program := "ytheneidclfohoaagreat", sum := "e173c486e84942677ec2be09191d9837a4f434d58562638e25377879b151a657", func := "loop.example/g03210/laws.FnExactOverdeleted", spec := "fnExactOverdeleted", inPlace := ["internal/reflectlite.ValueOf", "internal/reflectlite.Swapper", "(internal/reflectlite.Value).Len"], unfollowed := true, recurses := true, loops := true, apart := false, narrowed := true }
def FnExactOverdeletedUptoSaid : Prop := fnExactOverdeletedUptoRow.holds Tryz.pinned (OpenSpec.upto fnExactOverdeletedSpec)

/-- 'laws.FnExactBaseModel', WHERE WHAT IT READS IS OF BULK AT MOST 1048576: true; the input reads as it did. -/
def fnExactBaseModelUptoRow : OpenClaim := { program := "ytheneidclfohoaagreat", sum := "e173c486e84942677ec2be09191d9837a4f434d58562638e25377879b151a657", func := "loop.example/g03210/laws.FnExactBaseModel", spec := "fnExactBaseModel", inPlace := ["internal/reflectlite.ValueOf", "internal/reflectlite.Swapper", "(internal/reflectlite.Value).Len"], unfollowed := true, recurses := true, loops := true, apart := false, narrowed := true }
def FnExactBaseModelUptoSaid : Prop := fnExactBaseModelUptoRow.holds Tryz.pinned (OpenSpec.upto fnExactBaseModelSpec)

/-- 'laws.FnExactAddFact', WHERE WHAT IT READS IS OF BULK AT MOST 1048576: true; the input reads as it did. -/
def fnExactAddFactUptoRow : OpenClaim := { program := "ytheneidclfohoaagreat", sum := "e173c486e84942677ec2be09191d9837a4f434d58562638e25377879b151a657", func := "loop.example/g03210/laws.FnExactAddFact", spec := "fnExactAddFact", inPlace := ["internal/reflectlite.ValueOf", "internal/reflectlite.Swapper", "(internal/reflectlite.Value).Len"], unfollowed := true, recurses := true, loops := true, apart := false, narrowed := true }
def FnExactAddFactUptoSaid : Prop := fnExactAddFactUptoRow.holds Tryz.pinned (OpenSpec.upto fnExactAddFactSpec)

/-- 'laws.FnExactRemoveFact', WHERE WHAT IT READS IS OF BULK AT MOST 1048576: true; the input reads as it did. -/
def fnExactRemoveFactUptoRow : OpenClaim := { program := "ytheneidclfohoaagreat", sum := "e173c486e84942677ec2be09191d9837a4f434d58562638e25377879b151a657", func := "loop.example/g03210/laws.FnExactRemoveFact", spec := "fnExactRemoveFact", inPlace := ["internal/reflectlite.ValueOf", "internal/reflectlite.Swapper", "(internal/reflectlite.Value).Len"], unfollowed := true, recurses := true, loops := true, apart := false, narrowed := true }
def FnExactRemoveFactUptoSaid : Prop := fnExactRemoveFactUptoRow.holds Tryz.pinned (OpenSpec.upto fnExactRemoveFactSpec)

end Rows
end Go.Proofs.YtheneidclfohoaaGreat
