/-
  NARROWER THAN 'FOR EVERY INPUT', by the rows' own cells (each row's printed sentence says how): FnExactRowOf: loops · FnExactInstantiate: loops · FnExactMoreGeneral: loops · FnExactIsUnifier: loops.
  DERIVED. THE GIVEN ROWS OF THIS SEAT. 6 by the template 'for every input the law returns true; each argument reads behind the call as it read before'; 0 by the template 'total and deterministic' (their statements: YtjgohkogcdmbdaaTotals.lean).
  GIVEN WITH THE SEED: the statements are not yours to turn. If you find one false, say at which input.
  Laid BY PROGRAM, IN A SANDBOX (cutbox-rows.mjs): the forced cells as the released guide's own fill.sh prints them over the translation cf11812061f7cd14… (all of the seat's roots in one cut). By AI agents, Wed Nov 11 2026. No macro, syntax, notation, axiom, sorry.
-/
import Derived.Test.YtjgohkogcdmbdaaChecked
import GoSem.Claim
import GoSem.ClaimJoined
import GoSem.ClaimMapViews
import Derived.JoinedTies
import Derived.KernelRfl
namespace Go.Proofs.Ytjgohkogcdmbdaa
/- THE CELL 'sum', in the pinned program and in every row, IS THE sha256 OF THE DUMP (.gsa) THAT YtjgohkogcdmbdaaProg.lean LOADS. Nothing in Lean hashes anything: it is a label: what it is worth is what the hold of that sum in a sandbox is worth. -/
noncomputable def Try.pinned : Pinned := { name := "ytjgohkogcdmbdaa", sum := "cf11812061f7cd14e560147d64f8c8e91a329f16be3a06f3a2bc751c2716a8ad", checked := Try.checked }
namespace Rows
def none {H : Type} : Left H := { results := [], args := [] }

/-- 'laws.FnExactGraphOk': WHATEVER THE INPUT: true; the input reads as it did. -/
def fnExactGraphOkSpec : ChangeSpec := { name := "fnExactGraphOk", fn := fun _ => fun
  | [d] => { results := [.lit (.bool true)], args := [d] }
  | _ => none }
def fnExactGraphOkRow : OpenClaim := { program := "ytjgohkogcdmbdaa", sum := "cf11812061f7cd14e560147d64f8c8e91a329f16be3a06f3a2bc751c2716a8ad", func := "loop.example/g03210/laws.FnExactGraphOk", spec := "fnExactGraphOk", apart := false }
def FnExactGraphOkSaid : Prop := fnExactGraphOkRow.holds Try.pinned (OpenSpec.ofChange fnExactGraphOkSpec)

/-- ITS FALSE NEIGHBOUR: 'it returns false'. Refute it at one input. -/
def fnExactGraphOkWrong : ChangeSpec := { name := "fnExactGraphOk", fn := fun _ => fun
  | [d] => { results := [.lit (.bool false)], args := [d] }
  | _ => none }
def FnExactGraphOkWrongFalsely : Prop := fnExactGraphOkRow.holds Try.pinned (OpenSpec.ofChange fnExactGraphOkWrong)

/-- 'laws.FnExactComposeGraphs': WHATEVER THE INPUT: true; the input reads as it did. -/
def fnExactComposeGraphsSpec : ChangeSpec := { name := "fnExactComposeGraphs", fn := fun _ => fun
  | [d1, d2] => { results := [.lit (.bool true)], args := [d1, d2] }
  | _ => none }
def fnExactComposeGraphsRow : OpenClaim := { program := "ytjgohkogcdmbdaa", sum := "cf11812061f7cd14e560147d64f8c8e91a329f16be3a06f3a2bc751c2716a8ad", func := "loop.example/g03210/laws.FnExactComposeGraphs", spec := "fnExactComposeGraphs", apart := false }
def FnExactComposeGraphsSaid : Prop := fnExactComposeGraphsRow.holds Try.pinned (OpenSpec.ofChange fnExactComposeGraphsSpec)

/-- ITS FALSE NEIGHBOUR: 'it returns false'. Refute it at one input. -/
def fnExactComposeGraphsWrong : ChangeSpec := { name := "fnExactComposeGraphs", fn := fun _ => fun
  | [d1, d2] => { results := [.lit (.bool false)], args := [d1, d2] }
  | _ => none }
def FnExactComposeGraphsWrongFalsely : Prop := fnExactComposeGraphsRow.holds Try.pinned (OpenSpec.ofChange fnExactComposeGraphsWrong)

/-- 'laws.FnExactRowOf': WHATEVER THE INPUT: true; the input reads as it did. -/
def fnExactRowOfSpec : ChangeSpec := { name := "fnExactRowOf", fn := fun _ => fun
  | [d] => { results := [.lit (.bool true)], args := [d] }
  | _ => none }
def fnExactRowOfRow : OpenClaim := { program := "ytjgohkogcdmbdaa", sum := "cf11812061f7cd14e560147d64f8c8e91a329f16be3a06f3a2bc751c2716a8ad", func := "loop.example/g03210/laws.FnExactRowOf", spec := "fnExactRowOf", unfollowed := true, recurses := true, loops := true, apart := false }
def FnExactRowOfSaid : Prop := fnExactRowOfRow.holds Try.pinned (OpenSpec.ofChange fnExactRowOfSpec)

/-- ITS FALSE NEIGHBOUR: 'it returns false'. Refute it at one input. -/
def fnExactRowOfWrong : ChangeSpec := { name := "fnExactRowOf", fn := fun _ => fun
  | [d] => { results := [.lit (.bool false)], args := [d] }
  | _ => none }
def FnExactRowOfWrongFalsely : Prop := fnExactRowOfRow.holds Try.pinned (OpenSpec.ofChange fnExactRowOfWrong)

/-- 'laws.FnExactInstantiate': WHATEVER THE INPUT: true; the input reads as it did. -/
def fnExactInstantiateSpec : ChangeSpec := { name := "fnExactInstantiate", fn := fun _ => fun
  | [d1, d2] => { results := [.lit (.bool true)], args := [d1, d2] }
  | _ => none }
def fnExactInstantiateRow : OpenClaim := { program := "ytjgohkogcdmbdaa", sum := "cf11812061f7cd14e560147d64f8c8e91a329f16be3a06f3a2bc751c2716a8ad", func := "loop.example/g03210/laws.FnExactInstantiate", spec := "fnExactInstantiate", unfollowed := true, recurses := true, loops := true, apart := false }
def FnExactInstantiateSaid : Prop := fnExactInstantiateRow.holds Try.pinned (OpenSpec.ofChange fnExactInstantiateSpec)

/-- ITS FALSE NEIGHBOUR: 'it returns false'. Refute it at one input. -/
def fnExactInstantiateWrong : ChangeSpec := { name := "fnExactInstantiate", fn := fun _ => fun
  | [d1, d2] => { results := [.lit (.bool false)], args := [d1, d2] }
  | _ => none }
def FnExactInstantiateWrongFalsely : Prop := fnExactInstantiateRow.holds Try.pinned (OpenSpec.ofChange fnExactInstantiateWrong)

/-- 'laws.FnExactMoreGeneral': WHATEVER THE INPUT: true; the input reads as it did. -/
def fnExactMoreGeneralSpec : ChangeSpec := { name := "fnExactMoreGeneral", fn := fun _ => fun
  | [d1, d2] => { results := [.lit (.bool true)], args := [d1, d2] }
  | _ => none }
def fnExactMoreGeneralRow : OpenClaim := { program := "ytjgohkogcdmbdaa", sum := "cf11812061f7cd14e560147d64f8c8e91a329f16be3a06f3a2bc751c2716a8ad", func := "loop.example/g03210/laws.FnExactMoreGeneral", spec := "fnExactMoreGeneral", unfollowed := true, recurses := true, loops := true, apart := false }
def FnExactMoreGeneralSaid : Prop := fnExactMoreGeneralRow.holds Try.pinned (OpenSpec.ofChange fnExactMoreGeneralSpec)

/-- ITS FALSE NEIGHBOUR: 'it returns false'. Refute it at one input. -/
def fnExactMoreGeneralWrong : ChangeSpec := { name := "fnExactMoreGeneral", fn := fun _ => fun
  | [d1, d2] => { results := [.lit (.bool false)], args := [d1, d2] }
  | _ => none }
def FnExactMoreGeneralWrongFalsely : Prop := fnExactMoreGeneralRow.holds Try.pinned (OpenSpec.ofChange fnExactMoreGeneralWrong)

/-- 'laws.FnExactIsUnifier': WHATEVER THE INPUT: true; the input reads as it did. -/
def fnExactIsUnifierSpec : ChangeSpec := { name := "fnExactIsUnifier", fn := fun _ => fun
  | [d1, d2, d3] => { results := [.lit (.bool true)], args := [d1, d2, d3] }
  | _ => none }
def fnExactIsUnifierRow : OpenClaim := { program := "ytjgohkogcdmbdaa", sum := "cf11812061f7cd14e560147d64f8c8e91a329f16be3a06f3a2bc751c2716a8ad", func := "loop.example/g03210/laws.FnExactIsUnifier", spec := "fnExactIsUnifier", unfollowed := true, recurses := true, loops := true, apart := false }
def FnExactIsUnifierSaid : Prop := fnExactIsUnifierRow.holds Try.pinned (OpenSpec.ofChange fnExactIsUnifierSpec)

/-- ITS FALSE NEIGHBOUR: 'it returns false'. Refute it at one input. -/
def fnExactIsUnifierWrong : ChangeSpec := { name := "fnExactIsUnifier", fn := fun _ => fun
  | [d1, d2, d3] => { results := [.lit (.bool false)], args := [d1, d2, d3] }
  | _ => none }
def FnExactIsUnifierWrongFalsely : Prop := fnExactIsUnifierRow.holds Try.pinned (OpenSpec.ofChange fnExactIsUnifierWrong)

/- THE SECOND FORM. 'bulk': how many values and letters a reading holds, each counted each time it is reached (what is shared counts as often as it is met; a slice's spare places count too). A statement '..UptoSaid' is the law's where the arguments, and the package variables that the reading takes, are together of bulk at most 1048576: NARROWER than '..Said'. Prove '..Said' where nothing that the law and all that it calls make is longer than what came in: it says more and counts as full. Else prove '..UptoSaid'. A law counts once. -/
mutual
def uptoBulk {H : Type} : DataW H → Nat
  | .lit (.string bytes) => bytes.length + 1
  | .lit _ => 1
  | .nil => 1
  | .ptr d => uptoBulk d + 1
  | .slice elems spare => uptoBulkAll elems + uptoBulkAll spare + 1
  | .agg parts => uptoBulkAll parts + 1
  | .iface _ d => uptoBulk d + 1
  | .map entries => uptoBulkEntries entries + 1
  | .held _ => 1
def uptoBulkAll {H : Type} : List (DataW H) → Nat
  | [] => 0
  | d :: r => uptoBulk d + uptoBulkAll r
def uptoBulkEntries {H : Type} : List (Lit × DataW H) → Nat
  | [] => 0
  | x :: r => uptoBulkEntry x + uptoBulkEntries r
def uptoBulkEntry {H : Type} : Lit × DataW H → Nat
  | (.string bytes, d) => bytes.length + uptoBulk d + 1
  | (_, d) => uptoBulk d + 1
 end
def uptoSmall : (H : Type) → List (DataW H) → Bool := fun _ ds => decide (uptoBulkAll ds ≤ 1048576)
def OpenSpec.upto (s : _root_.Go.ChangeSpec) : _root_.Go.OpenSpec := { _root_.Go.OpenSpec.ofChange s with cond := some uptoSmall }

/-- 'laws.FnExactGraphOk', WHERE WHAT IT READS IS OF BULK AT MOST 1048576: true; the input reads as it did. -/
def fnExactGraphOkUptoRow : OpenClaim := { program := "ytjgohkogcdmbdaa", sum := "cf11812061f7cd14e560147d64f8c8e91a329f16be3a06f3a2bc751c2716a8ad", func := "loop.example/g03210/laws.FnExactGraphOk", spec := "fnExactGraphOk", apart := false, narrowed := true }
def FnExactGraphOkUptoSaid : Prop := fnExactGraphOkUptoRow.holds Try.pinned (OpenSpec.upto fnExactGraphOkSpec)

/-- 'laws.FnExactComposeGraphs', WHERE WHAT IT READS IS OF BULK AT MOST 1048576: true; the input reads as it did. -/
def fnExactComposeGraphsUptoRow : OpenClaim := { program := "ytjgohkogcdmbdaa", sum := "cf11812061f7cd14e560147d64f8c8e91a329f16be3a06f3a2bc751c2716a8ad", func := "loop.example/g03210/laws.FnExactComposeGraphs", spec := "fnExactComposeGraphs", apart := false, narrowed := true }
def FnExactComposeGraphsUptoSaid : Prop := fnExactComposeGraphsUptoRow.holds Try.pinned (OpenSpec.upto fnExactComposeGraphsSpec)

/-- 'laws.FnExactRowOf', WHERE WHAT IT READS IS OF BULK AT MOST 1048576: true; the input reads as it did. -/
def fnExactRowOfUptoRow : OpenClaim := { program := "ytjgohkogcdmbdaa", sum := "cf11812061f7cd14e560147d64f8c8e91a329f16be3a06f3a2bc751c2716a8ad", func := "loop.example/g03210/laws.FnExactRowOf", spec := "fnExactRowOf", unfollowed := true, recurses := true, loops := true, apart := false, narrowed := true }
def FnExactRowOfUptoSaid : Prop := fnExactRowOfUptoRow.holds Try.pinned (OpenSpec.upto fnExactRowOfSpec)

/-- 'laws.FnExactInstantiate', WHERE WHAT IT READS IS OF BULK AT MOST 1048576: true; the input reads as it did. -/
def fnExactInstantiateUptoRow : OpenClaim := { program := "ytjgohkogcdmbdaa", sum := "cf11812061f7cd14e560147d64f8c8e91a329f16be3a06f3a2bc751c2716a8ad", func := "loop.example/g03210/laws.FnExactInstantiate", spec := "fnExactInstantiate", unfollowed := true, recurses := true, loops := true, apart := false, narrowed := true }
def FnExactInstantiateUptoSaid : Prop := fnExactInstantiateUptoRow.holds Try.pinned (OpenSpec.upto fnExactInstantiateSpec)

/-- 'laws.FnExactMoreGeneral', WHERE WHAT IT READS IS OF BULK AT MOST 1048576: true; the input reads as it did. -/
def fnExactMoreGeneralUptoRow : OpenClaim := { program := "ytjgohkogcdmbdaa", sum := "cf11812061f7cd14e560147d64f8c8e91a329f16be3a06f3a2bc751c2716a8ad", func := "loop.example/g03210/laws.FnExactMoreGeneral", spec := "fnExactMoreGeneral", unfollowed := true, recurses := true, loops := true, apart := false, narrowed := true }
def FnExactMoreGeneralUptoSaid : Prop := fnExactMoreGeneralUptoRow.holds Try.pinned (OpenSpec.upto fnExactMoreGeneralSpec)

/-- 'laws.FnExactIsUnifier', WHERE WHAT IT READS IS OF BULK AT MOST 1048576: true; the input reads as it did. -/
def fnExactIsUnifierUptoRow : OpenClaim := { program := "ytjgohkogcdmbdaa", sum := "cf11812061f7cd14e560147d64f8c8e91a329f16be3a06f3a2bc751c2716a8ad", func := "loop.example/g03210/laws.FnExactIsUnifier", spec := "fnExactIsUnifier", unfollowed := true, recurses := true, loops := true, apart := false, narrowed := true }
def FnExactIsUnifierUptoSaid : Prop := fnExactIsUnifierUptoRow.holds Try.pinned (OpenSpec.upto fnExactIsUnifierSpec)

end Rows
end Go.Proofs.Ytjgohkogcdmbdaa
