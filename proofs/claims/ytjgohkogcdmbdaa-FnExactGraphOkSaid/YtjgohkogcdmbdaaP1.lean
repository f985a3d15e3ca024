/- 'laws.FnExactGraphOk' returns true for every input, and each argument reads behind the call as it read before: no condition. -/
import Derived.Test.YtjgohkogcdmbdaaRows
import Derived.Test.YtjgohkogcdmbdaaVd
namespace Go.Proofs.Ytjgohkogcdmbdaa
open Go.ChangeShapes Go.WideShapes Go.ChangeAt Go.RowKit Go.Vx
theorem FnExactGraphOk.own : ownKnob Try.prog.godebug = none := by kernel_rfl
theorem FnExactGraphOk.laidOut : laidOutB Try.prog = true := by kernel_rfl
set_option maxRecDepth 100000 in
theorem FnExactGraphOk.lifted (os : Os) (started : os.Started) (H : Type) (enc : TypeId × Value → H) :
    ReturnsInHanded {} Try.checked os 3 .any (Rows.fnExactGraphOkSpec.pre6 enc Try.prog Try.f3 Rows.fnExactGraphOkRow.domain false) (Rows.fnExactGraphOkSpec.post enc Try.prog Try.f3 false true false false) := by
  refine returnsInHanded_of_change (C := Try.checked) FnExactGraphOk.own started (by kernel_rfl) Try.func3
    (ChangeSpec.witness6 (enc := enc) (C := Try.checked) false ⟨#[], #[.agg #[.string ⟨#[]⟩, .string ⟨#[]⟩, .slice none 0 0]], []⟩ 8 (by kernel_rfl) (by kernel_rfl) (by kernel_rfl) (by kernel_rfl)) ?_
  intro W base args ds gs before hval0 hW hcnd _
  have hval : ∀ (j : Nat) t v, Try.f3.params[j]? = some t → args[j]? = some v → Value.okWide Try.prog W .any base t v := hval0
  have hW' := hW
  obtain ⟨p, q, hA0, hV, rfl, hfz, hnd⟩ := hW
  have hA : DataW.TrodAll enc Try.prog W 0 (fun _ => true) true Try.f3.params.toList args.toList ds p := hA0
  rw [Try.params3] at hA hval
  obtain ⟨v0, d0, rfl, rfl, h0⟩ := trodAll_one hA
  obtain ⟨d, ⟨g, rfl, k1, k2⟩, cs, rfl, hr⟩ := read_struct Try.underlying24 read_Graph (hval 0 _ _ rfl rfl) h0
  refine law_calls FnExactGraphOk.laidOut (fn := Try.f3) (tb := 4) ?_ (by kernel_rfl) und_bool rfl rfl hW' ?_
  · intro t ht
    have : Try.f3.params.toList = [24] := by rw [Try.params3]
    rw [this] at ht
    simp only [List.mem_singleton] at ht
    subst ht
    exact ⟨by kernel_rfl, of_decide_eq_true (by kernel_rfl)⟩
  · exact FnExactGraphOk_spec ⟨cs, rfl, by simpa [Rep, Graph.d] using hr⟩ k1 k2
theorem FnExactGraphOk_holds : Rows.FnExactGraphOkSaid :=
  OpenClaim.holds_of_wide 3 Try.f3 rfl rfl rfl rfl rfl rfl rfl ⟨rfl, rfl, rfl, rfl, rfl⟩ rfl rfl rfl rfl rfl (by kernel_rfl) Try.func3 (by kernel_rfl)
    (of_decide_eq_true (by kernel_rfl)) (by unfold Func.isWrapper; first | (rw [if_pos (by decide +kernel)]; kernel_rfl) | (rw [if_neg (by decide +kernel)]; exact ⟨rfl, rfl⟩))
    (fun os started H enc _ => FnExactGraphOk.lifted os started H enc)
#print axioms FnExactGraphOk_holds
end Go.Proofs.Ytjgohkogcdmbdaa
