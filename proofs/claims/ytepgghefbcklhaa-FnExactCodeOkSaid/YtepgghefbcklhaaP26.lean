/- 'laws.FnExactCodeOk' returns true for every input, and each argument reads behind the call as it read before: no condition. -/
import Derived.Test.YtepgghefbcklhaaRows
import Derived.Test.YtepgghefbcklhaaM3
import Derived.Test.YtepgghefbcklhaaM5
namespace Go.Proofs.Ytepgghefbcklhaa
open Go.ChangeShapes Go.WideShapes Go.ChangeAt Go.RowKit Go.Vx
theorem FnExactCodeOk.own : ownKnob Try.prog.godebug = none := by kernel_rfl
theorem FnExactCodeOk.laidOut : laidOutB Try.prog = true := by kernel_rfl
set_option maxRecDepth 100000 in
theorem FnExactCodeOk.lifted (os : Os) (started : os.Started) (H : Type) (enc : TypeId × Value → H) :
    ReturnsInHanded {} Try.checked os 8 .any (Rows.fnExactCodeOkSpec.pre6 enc Try.prog Try.f8 Rows.fnExactCodeOkRow.domain false) (Rows.fnExactCodeOkSpec.post enc Try.prog Try.f8 false true false false) := by
  refine returnsInHanded_of_change (C := Try.checked) FnExactCodeOk.own started (by kernel_rfl) Try.func8
    (ChangeSpec.witness6 (enc := enc) (C := Try.checked) false ⟨#[], #[.agg #[.slice none 0 0, .slice none 0 0]], []⟩ 8 (by kernel_rfl) (by kernel_rfl) (by kernel_rfl) (by kernel_rfl)) ?_
  intro W base args ds gs before hval0 hW hcnd _
  have hval : ∀ (j : Nat) t v, Try.f8.params[j]? = some t → args[j]? = some v → Value.okWide Try.prog W .any base t v := hval0
  have hW' := hW
  obtain ⟨p, q, hA0, hV, rfl, hfz, hnd⟩ := hW
  have hA : DataW.TrodAll enc Try.prog W 0 (fun _ => true) true Try.f8.params.toList args.toList ds p := hA0
  rw [Try.params8] at hA hval
  obtain ⟨v0, d0, rfl, rfl, h0⟩ := trodAll_one hA
  obtain ⟨e0, ⟨g0, rfl, w0⟩, cs0, rfl, hr0⟩ := read_struct Try.underlying74 read_Code (hval 0 _ _ rfl rfl) h0
  refine law_calls FnExactCodeOk.laidOut (fn := Try.f8) (tb := 4) ?_ (by kernel_rfl) und_bool rfl rfl hW' ⟨Try.f8, Try.func8, by kernel_rfl, by kernel_rfl⟩ ?_
  · intro t ht
    have : Try.f8.params.toList = [74] := by rw [Try.params8]
    rw [this] at ht
    simp only [List.mem_cons, List.not_mem_nil, or_false] at ht
    subst ht
    exact ⟨by kernel_rfl, of_decide_eq_true (by kernel_rfl)⟩
  · exact FnExactCodeOk_spec (Cd.rep hr0) w0
theorem FnExactCodeOk.closed : joinedFacts Try.pinned.checked.prog 8 Try.f8 Rows.fnExactCodeOkSpec Rows.fnExactCodeOkRow = true := by kernel_rfl
theorem FnExactCodeOk_holds : Rows.FnExactCodeOkSaid :=
  OpenClaim.holds_of_wide 8 Try.f8 rfl rfl rfl rfl rfl rfl rfl ⟨rfl, rfl, rfl, rfl, rfl⟩ rfl rfl rfl rfl rfl (by kernel_rfl) Try.func8 FnExactCodeOk.closed
    (of_decide_eq_true (by kernel_rfl)) (by unfold Func.isWrapper; first | (rw [if_pos (by decide +kernel)]; kernel_rfl) | (rw [if_neg (by decide +kernel)]; exact ⟨rfl, rfl⟩))
    (fun os started H enc _ => FnExactCodeOk.lifted os started H enc)
#print axioms FnExactCodeOk_holds
end Go.Proofs.Ytepgghefbcklhaa
