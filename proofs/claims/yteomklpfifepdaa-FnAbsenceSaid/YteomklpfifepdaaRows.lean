/-
  No cell of these rows narrows 'for every input' (looked for: loops, veiled, ifaces, maps, wideKeys, modest, calm, conditions, laid).
  DERIVED. THE GIVEN ROWS OF THIS SEAT. 7 by the template 'for every input the law returns true; each argument reads behind the call as it read before'; 0 by the template 'total and deterministic' (their statements: YteomklpfifepdaaTotals.lean).
  GIVEN WITH THE SEED: the statements are not yours to turn. If you find one false, say at which input.
  Laid BY PROGRAM, IN A SANDBOX (cutbox-rows.mjs): the forced cells as the released guide's own fill.sh prints them over the translation acceb49fc923a802… (all of the seat's roots in one cut). By AI agents, Wed Nov 11 2026. No macro, syntax, notation, axiom, sorry.
-/
import Derived.Test.YteomklpfifepdaaChecked
import GoSem.Claim
import GoSem.ClaimJoined
import GoSem.ClaimMapViews
import Derived.JoinedTies
import Derived.KernelRfl
namespace Go.Proofs.Yteomklpfifepdaa
/- THE CELL 'sum', in the pinned program and in every row, IS THE sha256 OF THE DUMP (.gsa) THAT YteomklpfifepdaaProg.lean LOADS. Nothing in Lean hashes anything: it is a label: what it is worth is what the hold of that sum in a sandbox is worth. -/
noncomputable def Try.pinned : Pinned := { name := "yteomklpfifepdaa", sum := "acceb49fc923a8022668747a49d67db42e08cb9836333ef3920aa1629c0a5d4f", checked := Try.checked }
namespace Rows
def none {H : Type} : Left H := { results := [], args := [] }

/-- 'laws.FnUnifier': WHATEVER THE INPUT: true; the input reads as it did. -/
def fnUnifierSpec : ChangeSpec := { name := "fnUnifier", fn := fun _ => fun
  | [d] => { results := [.lit (.bool true)], args := [d] }
  | _ => none }
def fnUnifierRow : OpenClaim := { program := "yteomklpfifepdaa", sum := "acceb49fc923a8022668747a49d67db42e08cb9836333ef3920aa1629c0a5d4f", func := "loop.example/g03210/laws.FnUnifier", spec := "fnUnifier", unfollowed := true, recurses := true, plainKeys := false, apart := false }
def FnUnifierSaid : Prop := fnUnifierRow.holds Try.pinned (OpenSpec.ofChange fnUnifierSpec)

/-- ITS FALSE NEIGHBOUR: 'it returns false'. Refute it at one input. -/
def fnUnifierWrong : ChangeSpec := { name := "fnUnifier", fn := fun _ => fun
  | [d] => { results := [.lit (.bool false)], args := [d] }
  | _ => none }
def FnUnifierWrongFalsely : Prop := fnUnifierRow.holds Try.pinned (OpenSpec.ofChange fnUnifierWrong)

/-- 'laws.FnMinimal': WHATEVER THE INPUT: true; the input reads as it did. -/
def fnMinimalSpec : ChangeSpec := { name := "fnMinimal", fn := fun _ => fun
  | [d] => { results := [.lit (.bool true)], args := [d] }
  | _ => none }
def fnMinimalRow : OpenClaim := { program := "yteomklpfifepdaa", sum := "acceb49fc923a8022668747a49d67db42e08cb9836333ef3920aa1629c0a5d4f", func := "loop.example/g03210/laws.FnMinimal", spec := "fnMinimal", inPlace := ["internal/reflectlite.ValueOf", "internal/reflectlite.Swapper", "(internal/reflectlite.Value).Len"], unfollowed := true, recurses := true, plainKeys := false, apart := false }
def FnMinimalSaid : Prop := fnMinimalRow.holds Try.pinned (OpenSpec.ofChange fnMinimalSpec)

/-- ITS FALSE NEIGHBOUR: 'it returns false'. Refute it at one input. -/
def fnMinimalWrong : ChangeSpec := { name := "fnMinimal", fn := fun _ => fun
  | [d] => { results := [.lit (.bool false)], args := [d] }
  | _ => none }
def FnMinimalWrongFalsely : Prop := fnMinimalRow.holds Try.pinned (OpenSpec.ofChange fnMinimalWrong)

/-- 'laws.FnKinds': WHATEVER THE INPUT: true; the input reads as it did. -/
def fnKindsSpec : ChangeSpec := { name := "fnKinds", fn := fun _ => fun
  | [d] => { results := [.lit (.bool true)], args := [d] }
  | _ => none }
def fnKindsRow : OpenClaim := { program := "yteomklpfifepdaa", sum := "acceb49fc923a8022668747a49d67db42e08cb9836333ef3920aa1629c0a5d4f", func := "loop.example/g03210/laws.FnKinds", spec := "fnKinds", inPlace := ["internal/reflectlite.ValueOf", "internal/reflectlite.Swapper", "(internal/reflectlite.Value).Len"], unfollowed := true, recurses := true, plainKeys := false, apart := false }
def FnKindsSaid : Prop := fnKindsRow.holds Try.pinned (OpenSpec.ofChange fnKindsSpec)

/-- ITS FALSE NEIGHBOUR: 'it returns false'. Refute it at one input. -/
def fnKindsWrong : ChangeSpec := { name := "fnKinds", fn := fun _ => fun
  | [d] => { results := [.lit (.bool false)], args := [d] }
  | _ => none }
def FnKindsWrongFalsely : Prop := fnKindsRow.holds Try.pinned (OpenSpec.ofChange fnKindsWrong)

/-- 'laws.FnCanonical': WHATEVER THE INPUT: true; the input reads as it did. -/
def fnCanonicalSpec : ChangeSpec := { name := "fnCanonical", fn := fun _ => fun
  | [d] => { results := [.lit (.bool true)], args := [d] }
  | _ => none }
def fnCanonicalRow : OpenClaim := { program := "yteomklpfifepdaa", sum := "acceb49fc923a8022668747a49d67db42e08cb9836333ef3920aa1629c0a5d4f", func := "loop.example/g03210/laws.FnCanonical", spec := "fnCanonical", unfollowed := true, recurses := true, plainKeys := false, apart := false }
def FnCanonicalSaid : Prop := fnCanonicalRow.holds Try.pinned (OpenSpec.ofChange fnCanonicalSpec)

/-- ITS FALSE NEIGHBOUR: 'it returns false'. Refute it at one input. -/
def fnCanonicalWrong : ChangeSpec := { name := "fnCanonical", fn := fun _ => fun
  | [d] => { results := [.lit (.bool false)], args := [d] }
  | _ => none }
def FnCanonicalWrongFalsely : Prop := fnCanonicalRow.holds Try.pinned (OpenSpec.ofChange fnCanonicalWrong)

/-- 'laws.FnAbsence': WHATEVER THE INPUT: true; the input reads as it did. -/
def fnAbsenceSpec : ChangeSpec := { name := "fnAbsence", fn := fun _ => fun
  | [d] => { results := [.lit (.bool true)], args := [d] }
  | _ => none }
def fnAbsenceRow : OpenClaim := { program := "yteomklpfifepdaa", sum := "acceb49fc923a8022668747a49d67db42e08cb9836333ef3920aa1629c0a5d4f", func := "loop.example/g03210/laws.FnAbsence", spec := "fnAbsence", inPlace := ["internal/reflectlite.ValueOf", "internal/reflectlite.Swapper", "(internal/reflectlite.Value).Len"], unfollowed := true, recurses := true, plainKeys := false, apart := false }
def FnAbsenceSaid : Prop := fnAbsenceRow.holds Try.pinned (OpenSpec.ofChange fnAbsenceSpec)

/-- ITS FALSE NEIGHBOUR: 'it returns false'. Refute it at one input. -/
def fnAbsenceWrong : ChangeSpec := { name := "fnAbsence", fn := fun _ => fun
  | [d] => { results := [.lit (.bool false)], args := [d] }
  | _ => none }
def FnAbsenceWrongFalsely : Prop := fnAbsenceRow.holds Try.pinned (OpenSpec.ofChange fnAbsenceWrong)

/-- 'laws.FnJoin': WHATEVER THE INPUT: true; the input reads as it did. -/
def fnJoinSpec : ChangeSpec := { name := "fnJoin", fn := fun _ => fun
  | [d] => { results := [.lit (.bool true)], args := [d] }
  | _ => none }
def fnJoinRow : OpenClaim := { program := "yteomklpfifepdaa", sum := "acceb49fc923a8022668747a49d67db42e08cb9836333ef3920aa1629c0a5d4f", func := "loop.example/g03210/laws.FnJoin", spec := "fnJoin", unfollowed := true, recurses := true, plainKeys := false, apart := false }
def FnJoinSaid : Prop := fnJoinRow.holds Try.pinned (OpenSpec.ofChange fnJoinSpec)

/-- ITS FALSE NEIGHBOUR: 'it returns false'. Refute it at one input. -/
def fnJoinWrong : ChangeSpec := { name := "fnJoin", fn := fun _ => fun
  | [d] => { results := [.lit (.bool false)], args := [d] }
  | _ => none }
def FnJoinWrongFalsely : Prop := fnJoinRow.holds Try.pinned (OpenSpec.ofChange fnJoinWrong)

/-- 'laws.FnDisequality': WHATEVER THE INPUT: true; the input reads as it did. -/
def fnDisequalitySpec : ChangeSpec := { name := "fnDisequality", fn := fun _ => fun
  | [d] => { results := [.lit (.bool true)], args := [d] }
  | _ => none }
def fnDisequalityRow : OpenClaim := { program := "yteomklpfifepdaa", sum := "acceb49fc923a8022668747a49d67db42e08cb9836333ef3920aa1629c0a5d4f", func := "loop.example/g03210/laws.FnDisequality", spec := "fnDisequality", unfollowed := true, recurses := true, plainKeys := false, apart := false }
def FnDisequalitySaid : Prop := fnDisequalityRow.holds Try.pinned (OpenSpec.ofChange fnDisequalitySpec)

/-- ITS FALSE NEIGHBOUR: 'it returns false'. Refute it at one input. -/
def fnDisequalityWrong : ChangeSpec := { name := "fnDisequality", fn := fun _ => fun
  | [d] => { results := [.lit (.bool false)], args := [d] }
  | _ => none }
def FnDisequalityWrongFalsely : Prop := fnDisequalityRow.holds Try.pinned (OpenSpec.ofChange fnDisequalityWrong)

/- THE SECOND FORM. 'bulk': how many values and letters a reading holds, each counted each time it is reached (what is shared counts as often as it is met; a slice's spare places count too). A statement '..UptoSaid' is the law's where the arguments, and the package variables that the reading takes, are together of bulk at most 1048576: NARROWER than '..Said'. Prove '..Said' where nothing that the law and all that it calls make is longer than what came in: it says more and counts as full. Else prove '..UptoSaid'. A law counts once. -/
mutual
def uptoBulk {H : Type} : DataW H → Nat
  | .lit (.string bytes) => bytes.length + 1
  | .lit _ => 1
  | .nil => 1
  | .ptr d => uptoBulk d + 1
  | .slice elems spare => uptoBulkAll elems + uptoBulkAll spare + 1
  | .agg parts => uptoBulkAll parts + 1
  | .iface _ d => uptoBulk d + 1
  | .map entries => uptoBulkEntries entries + 1
  | .held _ => 1
def uptoBulkAll {H : Type} : List (DataW H) → Nat
  | [] => 0
  | d :: r => uptoBulk d + uptoBulkAll r
def uptoBulkEntries {H : Type} : List (Lit × DataW H) → Nat
  | [] => 0
  | x :: r => uptoBulkEntry x + uptoBulkEntries r
def uptoBulkEntry {H : Type} : Lit × DataW H → Nat
  | (.string bytes, d) => bytes.length + uptoBulk d + 1
  | (_, d) => uptoBulk d + 1
 end
def uptoSmall : (H : Type) → List (DataW H) → Bool := fun _ ds => decide (uptoBulkAll ds ≤ 1048576)
def OpenSpec.upto (s : _root_.Go.ChangeSpec) : _root_.Go.OpenSpec := { _root_.Go.OpenSpec.ofChange s with cond := some uptoSmall }

/-- 'laws.FnUnifier', WHERE WHAT IT READS IS OF BULK AT MOST 1048576: true; the input reads as it did. -/
def fnUnifierUptoRow : OpenClaim := { program := "yteomklpfifepdaa", sum := "acceb49fc923a8022668747a49d67db42e08cb9836333ef3920aa1629c0a5d4f", func := "loop.example/g03210/laws.FnUnifier", spec := "fnUnifier", unfollowed := true, recurses := true, plainKeys := false, apart := false, narrowed := true }
def FnUnifierUptoSaid : Prop := fnUnifierUptoRow.holds Try.pinned (OpenSpec.upto fnUnifierSpec)

/-- 'laws.FnMinimal', WHERE WHAT IT READS IS OF BULK AT MOST 1048576: true; the input reads as it did. -/
def fnMinimalUptoRow : OpenClaim := { program := "yteomklpfifepdaa", sum := "acceb49fc923a8022668747a49d67db42e08cb9836333ef3920aa1629c0a5d4f", func := "loop.example/g03210/laws.FnMinimal", spec := "fnMinimal", inPlace := ["internal/reflectlite.ValueOf", "internal/reflectlite.Swapper", "(internal/reflectlite.Value).Len"], unfollowed := true, recurses := true, plainKeys := false, apart := false, narrowed := true }
def FnMinimalUptoSaid : Prop := fnMinimalUptoRow.holds Try.pinned (OpenSpec.upto fnMinimalSpec)

/-- 'laws.FnKinds', WHERE WHAT IT READS IS OF BULK AT MOST 1048576: true; the input reads as it did. -/
def fnKindsUptoRow : OpenClaim := { program := "yteomklpfifepdaa", sum := "acceb49fc923a8022668747a49d67db42e08cb9836333ef3920aa1629c0a5d4f", func := "loop.example/g03210/laws.FnKinds", spec := "fnKinds", inPlace := ["internal/reflectlite.ValueOf", "internal/reflectlite.Swapper", "(internal/reflectlite.Value).Len"], unfollowed := true, recurses := true, plainKeys := false, apart := false, narrowed := true }
def FnKindsUptoSaid : Prop := fnKindsUptoRow.holds Try.pinned (OpenSpec.upto fnKindsSpec)

/-- 'laws.FnCanonical', WHERE WHAT IT READS IS OF BULK AT MOST 1048576: true; the input reads as it did. -/
def fnCanonicalUptoRow : OpenClaim := { program := "yteomklpfifepdaa", sum := "acceb49fc923a8022668747a49d67db42e08cb9836333ef3920aa1629c0a5d4f", func := "loop.example/g03210/laws.FnCanonical", spec := "fnCanonical", unfollowed := true, recurses := true, plainKeys := false, apart := false, narrowed := true }
def FnCanonicalUptoSaid : Prop := fnCanonicalUptoRow.holds Try.pinned (OpenSpec.upto fnCanonicalSpec)

/-- 'laws.FnAbsence', WHERE WHAT IT READS IS OF BULK AT MOST 1048576: true; the input reads as it did. -/
def fnAbsenceUptoRow : OpenClaim := { program := "yteomklpfifepdaa", sum := "acceb49fc923a8022668747a49d67db42e08cb9836333ef3920aa1629c0a5d4f", func := "loop.example/g03210/laws.FnAbsence", spec := "fnAbsence", inPlace := ["internal/reflectlite.ValueOf", "internal/reflectlite.Swapper", "(internal/reflectlite.Value).Len"], unfollowed := true, recurses := true, plainKeys := false, apart := false, narrowed := true }
def FnAbsenceUptoSaid : Prop := fnAbsenceUptoRow.holds Try.pinned (OpenSpec.upto fnAbsenceSpec)

/-- 'laws.FnJoin', WHERE WHAT IT READS IS OF BULK AT MOST 1048576: true; the input reads as it did. -/
def fnJoinUptoRow : OpenClaim := { program := "yteomklpfifepdaa", sum := "acceb49fc923a8022668747a49d67db42e08cb9836333ef3920aa1629c0a5d4f", func := "loop.example/g03210/laws.FnJoin", spec := "fnJoin", unfollowed := true, recurses := true, plainKeys := false, apart := false, narrowed := true }
def FnJoinUptoSaid : Prop := fnJoinUptoRow.holds Try.pinned (OpenSpec.upto fnJoinSpec)

/-- 'laws.FnDisequality', WHERE WHAT IT READS IS OF BULK AT MOST 1048576: true; the input reads as it did. -/
def fnDisequalityUptoRow : OpenClaim := { program := "yteomklpfifepdaa", sum := "acceb49fc923a8022668747a49d67db42e08cb9836333ef3920aa1629c0a5d4f", func := "loop.example/g03210/laws.FnDisequality", spec := "fnDisequality", unfollowed := true, recurses := true, plainKeys := false, apart := false, narrowed := true }
def FnDisequalityUptoSaid : Prop := fnDisequalityUptoRow.holds Try.pinned (OpenSpec.upto fnDisequalitySpec)

end Rows
end Go.Proofs.Yteomklpfifepdaa
