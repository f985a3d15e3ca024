/- 'laws.FnExactCountGoals' returns true for every input, and each argument reads behind the call as it read before: no condition. -/
import Derived.Test.YtepgghefbcklhaaRows
import Derived.Test.YtepgghefbcklhaaM3
import Derived.Test.YtepgghefbcklhaaM5
namespace Go.Proofs.Ytepgghefbcklhaa
open Go.ChangeShapes Go.WideShapes Go.ChangeAt Go.RowKit Go.Vx
theorem FnExactCountGoals.own : ownKnob Try.prog.godebug = none := by kernel_rfl
theorem FnExactCountGoals.laidOut : laidOutB Try.prog = true := by kernel_rfl
set_option maxRecDepth 100000 in
theorem FnExactCountGoals.lifted (os : Os) (started : os.Started) (H : Type) (enc : TypeId × Value → H) :
    ReturnsInHanded {} Try.checked os 3 .any (Rows.fnExactCountGoalsSpec.pre6 enc Try.prog Try.f3 Rows.fnExactCountGoalsRow.domain false) (Rows.fnExactCountGoalsSpec.post enc Try.prog Try.f3 false true false false) := by
  refine returnsInHanded_of_change (C := Try.checked) FnExactCountGoals.own started (by kernel_rfl) Try.func3
    (ChangeSpec.witness6 (enc := enc) (C := Try.checked) false ⟨#[], #[.agg #[.slice none 0 0]], []⟩ 8 (by kernel_rfl) (by kernel_rfl) (by kernel_rfl) (by kernel_rfl)) ?_
  intro W base args ds gs before hval0 hW hcnd _
  have hval : ∀ (j : Nat) t v, Try.f3.params[j]? = some t → args[j]? = some v → Value.okWide Try.prog W .any base t v := hval0
  have hW' := hW
  obtain ⟨p, q, hA0, hV, rfl, hfz, hnd⟩ := hW
  have hA : DataW.TrodAll enc Try.prog W 0 (fun _ => true) true Try.f3.params.toList args.toList ds p := hA0
  rw [Try.params3] at hA hval
  obtain ⟨v0, d0, rfl, rfl, h0⟩ := trodAll_one hA
  obtain ⟨e0, ⟨g0, rfl, w0⟩, cs0, rfl, hr0⟩ := read_struct Try.underlying24 read_Program (hval 0 _ _ rfl rfl) h0
  refine law_calls FnExactCountGoals.laidOut (fn := Try.f3) (tb := 4) ?_ (by kernel_rfl) und_bool rfl rfl hW' ⟨Try.f3, Try.func3, by kernel_rfl, by kernel_rfl⟩ ?_
  · intro t ht
    have : Try.f3.params.toList = [24] := by rw [Try.params3]
    rw [this] at ht
    simp only [List.mem_cons, List.not_mem_nil, or_false] at ht
    subst ht
    exact ⟨by kernel_rfl, of_decide_eq_true (by kernel_rfl)⟩
  · exact FnExactCountGoals_spec (Pg.rep hr0) w0
theorem FnExactCountGoals.closed : joinedFacts Try.pinned.checked.prog 3 Try.f3 Rows.fnExactCountGoalsSpec Rows.fnExactCountGoalsRow = true := by kernel_rfl
theorem FnExactCountGoals_holds : Rows.FnExactCountGoalsSaid :=
  OpenClaim.holds_of_wide 3 Try.f3 rfl rfl rfl rfl rfl rfl rfl ⟨rfl, rfl, rfl, rfl, rfl⟩ rfl rfl rfl rfl rfl (by kernel_rfl) Try.func3 FnExactCountGoals.closed
    (of_decide_eq_true (by kernel_rfl)) (by unfold Func.isWrapper; first | (rw [if_pos (by decide +kernel)]; kernel_rfl) | (rw [if_neg (by decide +kernel)]; exact ⟨rfl, rfl⟩))
    (fun os started H enc _ => FnExactCountGoals.lifted os started H enc)
#print axioms FnExactCountGoals_holds
end Go.Proofs.Ytepgghefbcklhaa
