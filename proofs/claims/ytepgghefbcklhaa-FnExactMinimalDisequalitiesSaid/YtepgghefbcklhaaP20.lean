/- 'laws.FnExactMinimalDisequalities' returns true for every input, and each argument reads behind the call as it read before: no condition. -/
import Derived.Test.YtepgghefbcklhaaRows
import Derived.Test.YtepgghefbcklhaaM3
import Derived.Test.YtepgghefbcklhaaM4
import Derived.Test.YtepgghefbcklhaaM6
namespace Go.Proofs.Ytepgghefbcklhaa
open Go.ChangeShapes Go.WideShapes Go.ChangeAt Go.RowKit Go.Vx
theorem FnExactMinimalDisequalities.own : ownKnob Try.prog.godebug = none := by kernel_rfl
theorem FnExactMinimalDisequalities.laidOut : laidOutB Try.prog = true := by kernel_rfl
set_option maxRecDepth 100000 in
theorem FnExactMinimalDisequalities.lifted (os : Os) (started : os.Started) (H : Type) (enc : TypeId × Value → H) :
    ReturnsInHanded {} Try.checked os 4 .any (Rows.fnExactMinimalDisequalitiesSpec.pre6 enc Try.prog Try.f4 Rows.fnExactMinimalDisequalitiesRow.domain false) (Rows.fnExactMinimalDisequalitiesSpec.post enc Try.prog Try.f4 false true false false) := by
  refine returnsInHanded_of_change (C := Try.checked) FnExactMinimalDisequalities.own started (by kernel_rfl) Try.func4
    (ChangeSpec.witness6 (enc := enc) (C := Try.checked) false ⟨#[], #[.slice none 0 0], []⟩ 8 (by kernel_rfl) (by kernel_rfl) (by kernel_rfl) (by kernel_rfl)) ?_
  intro W base args ds gs before hval0 hW hcnd _
  have hval : ∀ (j : Nat) t v, Try.f4.params[j]? = some t → args[j]? = some v → Value.okWide Try.prog W .any base t v := hval0
  have hW' := hW
  obtain ⟨p, q, hA0, hV, rfl, hfz, hnd⟩ := hW
  have hA : DataW.TrodAll enc Try.prog W 0 (fun _ => true) true Try.f4.params.toList args.toList ds p := hA0
  rw [Try.params4] at hA hval
  obtain ⟨v0, d0, rfl, rfl, h0⟩ := trodAll_one hA
  obtain ⟨e0, ⟨l0, rfl, w0⟩, hr0⟩ := read_cell (fun cs => okWide_slice Try.underlying33 cs) read_BindingSS (hval 0 _ _ rfl rfl) h0
  refine law_calls FnExactMinimalDisequalities.laidOut (fn := Try.f4) (tb := 4) ?_ (by kernel_rfl) und_bool rfl rfl hW' ⟨Try.f4, Try.func4, by kernel_rfl, by kernel_rfl⟩ ?_
  · intro t ht
    have : Try.f4.params.toList = [33] := by rw [Try.params4]
    rw [this] at ht
    simp only [List.mem_cons, List.not_mem_nil, or_false] at ht
    subst ht
    exact ⟨by kernel_rfl, of_decide_eq_true (by kernel_rfl)⟩
  · exact FnExactMinimalDisequalities_spec hr0 w0
theorem FnExactMinimalDisequalities.closed : joinedFacts Try.pinned.checked.prog 4 Try.f4 Rows.fnExactMinimalDisequalitiesSpec Rows.fnExactMinimalDisequalitiesRow = true := by kernel_rfl
theorem FnExactMinimalDisequalities_holds : Rows.FnExactMinimalDisequalitiesSaid :=
  OpenClaim.holds_of_wide 4 Try.f4 rfl rfl rfl rfl rfl rfl rfl ⟨rfl, rfl, rfl, rfl, rfl⟩ rfl rfl rfl rfl rfl (by kernel_rfl) Try.func4 FnExactMinimalDisequalities.closed
    (of_decide_eq_true (by kernel_rfl)) (by unfold Func.isWrapper; first | (rw [if_pos (by decide +kernel)]; kernel_rfl) | (rw [if_neg (by decide +kernel)]; exact ⟨rfl, rfl⟩))
    (fun os started H enc _ => FnExactMinimalDisequalities.lifted os started H enc)
#print axioms FnExactMinimalDisequalities_holds
end Go.Proofs.Ytepgghefbcklhaa
